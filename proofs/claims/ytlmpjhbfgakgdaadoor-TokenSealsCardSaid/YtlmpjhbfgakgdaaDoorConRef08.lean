/- Contracts: the references of chapters 7 and 8. -/
import Derived.Test.YtlmpjhbfgakgdaaDoorConConf
namespace Go.Proofs.YtlmpjhbfgakgdaaDoor
open Go.Ab Go.Md
set_option linter.unusedVariables false
set_option linter.unusedSimpArgs false
set_option maxRecDepth 20000

variable {H : Heap} {Q : Value → Heap → Prop}

theorem c_ref07_Many {h : Int} (h0 : 0 ≤ h ∧ h ≤ 62) (hQ : Q (.int .i64 (many h)) H) : callV Tryd.prog (fnV fn_ref07_Many) [.int .i64 h] H Q := by
  apply S_ref07_Many_of
  unfold S_ref07_Many
  refine loop_up h.toNat (fun i s H' => H' = H ∧ s = [[.int .i64 (2 ^ i : Int)], [.int .i64 (i : Int)]]) ⟨rfl, rfl⟩ ?_
  rintro i s H' K hi ⟨rfl, rfl⟩ hK
  try simp only [sv_cons, sv_cons1, sc_cons, sc_cons1, asB_bool, ifB_true, ifB_false, un_not, bin_lss, bin_leq, bin_gtr, bin_geq, bin_eql, bin_neq, bin_add, bin_sub, bin_mul, ok_int, ok_bool, ok_slice, ok_str, ok_ptr, ok_map, ok_func, ok_iface, ok_nil, List.all_cons, List.all_nil, Bool.and_true, Bool.true_and, seg, setSeg, List.drop_succ_cons, List.drop_zero, List.take_succ_cons, List.take_zero, List.cons_append, List.nil_append, List.append_nil, List.length_cons, List.length_nil, List.drop_nil, List.size_toArray, Nat.reduceAdd, Nat.reduceLeDiff, Nat.reduceBEq, Nat.zero_add, Nat.le_refl, decide_true, mkV, List.headD_cons, cellsV, w_fldV, w_ext, w_fldP, List.getElem?_toArray, List.getElem?_cons_zero, List.getElem?_cons_succ, beq_self_eq_true, selV]
  refine ifD_of (fun h1 => ?_) (fun h1 => ?_)
  · have e1 : (2 : Int) * 2 ^ i = 2 ^ (i + 1) := by rw [Int.pow_succ, Int.mul_comm]
    have e2 : (2 : Int) ^ (i + 1) ≤ 2 ^ 62 := by
      have : (2 : Nat) ^ (i + 1) ≤ 2 ^ 62 := Nat.pow_le_pow_right (by omega) (by omega)
      exact_mod_cast this
    have e3 : (0 : Int) ≤ 2 ^ (i + 1) := by
      have : (0 : Nat) ≤ 2 ^ (i + 1) := Nat.zero_le _
      exact_mod_cast this
    rw [e1, wrap_i64 (x := 2 ^ (i + 1)) (by unfold i64; omega), wrap_i64 (x := (i : Int) + 1) (by unfold i64; omega)]
    exact hK _ _ (by omega) ⟨rfl, by simp⟩
  · have : i = h.toNat := by omega
    subst this
    exact hQ

theorem c_ref08_in {a b c : Int} (hQ : Q (.bool (decide (b ≤ a ∧ a ≤ c))) H) : callV Tryd.prog (fnV fn_ref08_in) [.int .i64 a, .int .i64 b, .int .i64 c] H Q := by
  apply S_ref08_in_of
  unfold S_ref08_in
  refine join_of (fun s H' => H' = H ∧ s = [[.bool (decide (b ≤ a ∧ a ≤ c))]]) (fun K hK => ?_) ?_
  · try simp only [sv_cons, sv_cons1, sc_cons, sc_cons1, asB_bool, ifB_true, ifB_false, un_not, bin_lss, bin_leq, bin_gtr, bin_geq, bin_eql, bin_neq, bin_add, bin_sub, bin_mul, ok_int, ok_bool, ok_slice, ok_str, ok_ptr, ok_map, ok_func, ok_iface, ok_nil, List.all_cons, List.all_nil, Bool.and_true, Bool.true_and, seg, setSeg, List.drop_succ_cons, List.drop_zero, List.take_succ_cons, List.take_zero, List.cons_append, List.nil_append, List.append_nil, List.length_cons, List.length_nil, List.drop_nil, List.size_toArray, Nat.reduceAdd, Nat.reduceLeDiff, Nat.reduceBEq, Nat.zero_add, Nat.le_refl, decide_true, mkV, List.headD_cons, cellsV, w_fldV, w_ext, w_fldP, List.getElem?_toArray, List.getElem?_cons_zero, List.getElem?_cons_succ, beq_self_eq_true, selV]
    refine ifD_of (fun h1 => hK _ _ ⟨rfl, by simp [h1]⟩) (fun h1 => hK _ _ ⟨rfl, by simp [h1]⟩)
  · rintro s H' ⟨rfl, rfl⟩
    exact hQ

theorem c_ref08_numbers {c : Cfg} (hQ : ∀ H', G H H' → Q (.bool (decide c.num)) H') : callV Tryd.prog (fnV fn_ref08_numbers) [.agg (cCfg c).toArray] H Q := by
  apply S_ref08_numbers_of
  unfold S_ref08_numbers
  refine newT_of fun H1 g1 _ => ?_
  refine join_of (fun s H' => H' = H1 ∧ s = [[.bool (decide c.num)]]) (fun K hK => ?_) ?_
  · unfold Cfg.num at hK
    refine c_ref08_in (ifD_of (fun h0 => ?_) (fun h0 => hK _ _ ⟨rfl, by simp [h0]⟩))
    refine c_ref08_in (ifD_of (fun h1 => ?_) (fun h1 => hK _ _ ⟨rfl, by simp [h1]⟩))
    refine c_ref08_in (ifD_of (fun h2 => ?_) (fun h2 => hK _ _ ⟨rfl, by simp [h2]⟩))
    refine c_ref08_in (ifD_of (fun h3 => ?_) (fun h3 => hK _ _ ⟨rfl, by simp [h3]⟩))
    refine c_ref08_in (ifD_of (fun h4 => ?_) (fun h4 => hK _ _ ⟨rfl, by simp [h4]⟩))
    refine c_ref08_in (ifD_of (fun h5 => ?_) (fun h5 => hK _ _ ⟨rfl, by simp [h5]⟩))
    refine c_ref08_in (ifD_of (fun h6 => ?_) (fun h6 => hK _ _ ⟨rfl, by simp [h6]⟩))
    refine c_ref08_in (ifD_of (fun h7 => ?_) (fun h7 => hK _ _ ⟨rfl, by simp [h7]⟩))
    exact c_ref08_in (hK _ _ ⟨rfl, by simp [h0, h1, h2, h3, h4, h5, h6, h7]⟩)
  · rintro s H' ⟨rfl, rfl⟩
    exact hQ _ g1

theorem c_ref08_high {n : Int} (hn : 1 ≤ n ∧ n ≤ 64) (hQ : Q (.int .i64 (high n)) H) : callV Tryd.prog (fnV fn_ref08_high) [.int .i64 n] H Q := by
  apply S_ref08_high_of
  unfold S_ref08_high
  have hh := high_ge n
  refine loop_up 6 (fun i s H' => H' = H ∧ (i : Int) + 1 ≤ high n ∧ s = [[.int .i64 ((i : Int) + 1)]]) ⟨rfl, by omega, rfl⟩ ?_
  rintro i s H' K hi ⟨rfl, hle, rfl⟩ hK
  try simp only [sv_cons, sv_cons1, sc_cons, sc_cons1, asB_bool, ifB_true, ifB_false, un_not, bin_lss, bin_leq, bin_gtr, bin_geq, bin_eql, bin_neq, bin_add, bin_sub, bin_mul, ok_int, ok_bool, ok_slice, ok_str, ok_ptr, ok_map, ok_func, ok_iface, ok_nil, List.all_cons, List.all_nil, Bool.and_true, Bool.true_and, seg, setSeg, List.drop_succ_cons, List.drop_zero, List.take_succ_cons, List.take_zero, List.cons_append, List.nil_append, List.append_nil, List.length_cons, List.length_nil, List.drop_nil, List.size_toArray, Nat.reduceAdd, Nat.reduceLeDiff, Nat.reduceBEq, Nat.zero_add, Nat.le_refl, decide_true, mkV, List.headD_cons, cellsV, w_fldV, w_ext, w_fldP, List.getElem?_toArray, List.getElem?_cons_zero, List.getElem?_cons_succ, beq_self_eq_true, selV]
  refine c_ref07_Many ⟨by omega, by omega⟩ ?_
  try simp only [sv_cons, sv_cons1, sc_cons, sc_cons1, asB_bool, ifB_true, ifB_false, un_not, bin_lss, bin_leq, bin_gtr, bin_geq, bin_eql, bin_neq, bin_add, bin_sub, bin_mul, ok_int, ok_bool, ok_slice, ok_str, ok_ptr, ok_map, ok_func, ok_iface, ok_nil, List.all_cons, List.all_nil, Bool.and_true, Bool.true_and, seg, setSeg, List.drop_succ_cons, List.drop_zero, List.take_succ_cons, List.take_zero, List.cons_append, List.nil_append, List.append_nil, List.length_cons, List.length_nil, List.drop_nil, List.size_toArray, Nat.reduceAdd, Nat.reduceLeDiff, Nat.reduceBEq, Nat.zero_add, Nat.le_refl, decide_true, mkV, List.headD_cons, cellsV, w_fldV, w_ext, w_fldP, List.getElem?_toArray, List.getElem?_cons_zero, List.getElem?_cons_succ, beq_self_eq_true, selV]
  refine ifD_of (fun h1 => ?_) (fun h1 => ?_)
  · have := leaves_lt ⟨by omega, by omega⟩ hn.2 h1
    rw [wrap_i64 (by unfold i64; omega)]
    exact hK _ _ (by omega) ⟨rfl, by omega, by simp⟩
  · have := leaves_ge (h := (i : Int) + 1) ⟨by omega, hle⟩ (by omega)
    rw [this]; exact hQ

theorem c_ref08_All {c : Cfg} (hc : c.num) (hQ : ∀ v H', Sl rLvl H' (fun y => H.size ≤ y) v c.all → G H H' → Q v H') : callV Tryd.prog (fnV fn_ref08_All) [.agg (cCfg c).toArray] H Q := by
  apply S_ref08_All_of
  unfold S_ref08_All
  have hfan := hc.2.2.1
  have htop := hc.2.2.2.2.2.2.2.2
  refine newT_of fun H1 g1 s1 => ?_
  refine loop_up 64 (fun i s H' => ∃ v b, Ow rLvl H' b (fun _ => False) v (c.all.take i) ∧ G H H' ∧ (b = 0 ∨ H.size < b) ∧ ∃ n size : Int, (1 ≤ n ∧ n ≤ 64) ∧ (1 ≤ size ∧ size ≤ 32) ∧ c.all.drop i = c.allF 64 n size ∧
      s = [[v], [.int .i64 n], [.int .i64 size]]) ⟨_, 0, by simpa using Ow.nil rLvl H1 _, g1, .inl rfl, c.pages, c.size, hc.1, hc.2.1, rfl, rfl⟩ ?_
  rintro i s H' K hi ⟨v, b, ho, g, hb, n, size, hn, hs, hd, rfl⟩ hK
  have hstep := Cfg.allF_step hc (size := size) hn.1 hn.2
  rw [hstep] at hd
  have hget : c.all[i]? = some (c.level n size) := by
    have := List.getElem?_drop (xs := c.all) (i := i) (j := 0)
    rw [hd] at this; simpa using this.symm
  have hlt := (List.getElem?_eq_some_iff.1 hget).1
  have hlen := c.all_len
  have hd1 : c.all.drop (i + 1) = if n ≤ c.top then [] else c.allF 64 ((n + c.fan - 1).tdiv c.fan) (4 * c.fan) := by
    rw [← List.drop_drop, hd]; rfl
  have hw := width_i64 (c := c) hc.2.2.2.1 hs
  try simp only [sv_cons, sv_cons1, sc_cons, sc_cons1, asB_bool, ifB_true, ifB_false, un_not, bin_lss, bin_leq, bin_gtr, bin_geq, bin_eql, bin_neq, bin_add, bin_sub, bin_mul, ok_int, ok_bool, ok_slice, ok_str, ok_ptr, ok_map, ok_func, ok_iface, ok_nil, List.all_cons, List.all_nil, Bool.and_true, Bool.true_and, seg, setSeg, List.drop_succ_cons, List.drop_zero, List.take_succ_cons, List.take_zero, List.cons_append, List.nil_append, List.append_nil, List.length_cons, List.length_nil, List.drop_nil, List.size_toArray, Nat.reduceAdd, Nat.reduceLeDiff, Nat.reduceBEq, Nat.zero_add, Nat.le_refl, decide_true, mkV, List.headD_cons, cellsV, w_fldV, w_ext, w_fldP, List.getElem?_toArray, List.getElem?_cons_zero, List.getElem?_cons_succ, beq_self_eq_true, selV]
  rw [wrap_i64 hw.1, wrap_i64 hw.2.1, wrap_i64 hw.2.2]
  refine c_ref08_high hn ?_
  try simp only [sv_cons, sv_cons1, sc_cons, sc_cons1, asB_bool, ifB_true, ifB_false, un_not, bin_lss, bin_leq, bin_gtr, bin_geq, bin_eql, bin_neq, bin_add, bin_sub, bin_mul, ok_int, ok_bool, ok_slice, ok_str, ok_ptr, ok_map, ok_func, ok_iface, ok_nil, List.all_cons, List.all_nil, Bool.and_true, Bool.true_and, seg, setSeg, List.drop_succ_cons, List.drop_zero, List.take_succ_cons, List.take_zero, List.cons_append, List.nil_append, List.append_nil, List.length_cons, List.length_nil, List.drop_nil, List.size_toArray, Nat.reduceAdd, Nat.reduceLeDiff, Nat.reduceBEq, Nat.zero_add, Nat.le_refl, decide_true, mkV, List.headD_cons, cellsV, w_fldV, w_ext, w_fldP, List.getElem?_toArray, List.getElem?_cons_zero, List.getElem?_cons_succ, beq_self_eq_true, selV]
  have htk : (c.all.take i).length = i := by rw [List.length_take]; omega
  have hsz := g.size
  refine ho.push (R := rLvl) (x := c.level n size) (A' := fun _ => False) ⟨cLvl (c.level n size), rfl, rfl, Cfg.level_ok hc hn hs⟩ rfl (by omega) (by intro h; cases h) rfl rfl (fun y hy _ => by simp at hy) (by rw [htk]; omega) (by rw [htk]; omega)
    fun u He b' ho' fe hb' _ => ?_
  have ho' := ho'.mono (A' := fun _ => False) fun x hx _ => by simp at hx
  have htk1 : c.all.take i ++ [c.level n size] = c.all.take (i + 1) := by rw [List.take_add_one, hget]; rfl
  rw [htk1] at ho'
  have g' := g.then fe fun x hx => show x + 1 ≠ b by omega
  have hb2 : b' = 0 ∨ H.size < b' := by omega
  refine ifD_of (fun h1 => ?_) (fun h1 => ?_)
  · rw [if_pos h1] at hd1
    have : c.all.length ≤ i + 1 := List.drop_eq_nil_iff.1 hd1
    rw [List.take_of_length_le this] at ho'
    exact hQ _ _ (ho'.slF fun k hk => show H.size ≤ k by omega) g'
  · rw [if_neg h1] at hd1
    have hnx := next_le (n := n) hfan.1 hn.1
    try simp only [sv_cons, sv_cons1, sc_cons, sc_cons1, asB_bool, ifB_true, ifB_false, un_not, bin_lss, bin_leq, bin_gtr, bin_geq, bin_eql, bin_neq, bin_add, bin_sub, bin_mul, ok_int, ok_bool, ok_slice, ok_str, ok_ptr, ok_map, ok_func, ok_iface, ok_nil, List.all_cons, List.all_nil, Bool.and_true, Bool.true_and, seg, setSeg, List.drop_succ_cons, List.drop_zero, List.take_succ_cons, List.take_zero, List.cons_append, List.nil_append, List.append_nil, List.length_cons, List.length_nil, List.drop_nil, List.size_toArray, Nat.reduceAdd, Nat.reduceLeDiff, Nat.reduceBEq, Nat.zero_add, Nat.le_refl, decide_true, mkV, List.headD_cons, cellsV, w_fldV, w_ext, w_fldP, List.getElem?_toArray, List.getElem?_cons_zero, List.getElem?_cons_succ, beq_self_eq_true, selV]
    rw [wrap_i64 (x := n + c.fan) (by unfold i64; omega), wrap_i64 (x := n + c.fan - 1) (by unfold i64; omega)]
    refine w_quo (by omega) ?_
    rw [wrap_i64 (by unfold i64; omega)]
    try simp only [sv_cons, sv_cons1, sc_cons, sc_cons1, asB_bool, ifB_true, ifB_false, un_not, bin_lss, bin_leq, bin_gtr, bin_geq, bin_eql, bin_neq, bin_add, bin_sub, bin_mul, ok_int, ok_bool, ok_slice, ok_str, ok_ptr, ok_map, ok_func, ok_iface, ok_nil, List.all_cons, List.all_nil, Bool.and_true, Bool.true_and, seg, setSeg, List.drop_succ_cons, List.drop_zero, List.take_succ_cons, List.take_zero, List.cons_append, List.nil_append, List.append_nil, List.length_cons, List.length_nil, List.drop_nil, List.size_toArray, Nat.reduceAdd, Nat.reduceLeDiff, Nat.reduceBEq, Nat.zero_add, Nat.le_refl, decide_true, mkV, List.headD_cons, cellsV, w_fldV, w_ext, w_fldP, List.getElem?_toArray, List.getElem?_cons_zero, List.getElem?_cons_succ, beq_self_eq_true, selV]
    rw [wrap_i64 (by unfold i64; omega)]
    exact hK _ _ (by omega) ⟨u, b', ho', g', hb2, _, _, ⟨hnx.1, by omega⟩, ⟨by omega, by omega⟩, hd1, rfl⟩

theorem c_ref08_May {c : Cfg} (hQ : ∀ H', G H H' → Q (.bool (decide c.may)) H') : callV Tryd.prog (fnV fn_ref08_May) [.agg (cCfg c).toArray] H Q := by
  apply S_ref08_May_of
  unfold S_ref08_May
  refine newT_of fun H1 g1 _ => ?_
  refine join_of (fun s H' => G H H' ∧ s = [[.bool (decide c.may)]]) (fun K hK => ?_) ?_
  · refine c_ref08_numbers fun H2 g2 => ?_
    refine ifD_of (fun h => ?_) (fun h => hK _ _ ⟨g1.trans g2, by simp [Cfg.may, h]⟩)
    refine c_ref08_All h fun v H3 hs g3 => hs.len ?_
    try simp only [sv_cons, sv_cons1, sc_cons, sc_cons1, asB_bool, ifB_true, ifB_false, un_not, bin_lss, bin_leq, bin_gtr, bin_geq, bin_eql, bin_neq, bin_add, bin_sub, bin_mul, ok_int, ok_bool, ok_slice, ok_str, ok_ptr, ok_map, ok_func, ok_iface, ok_nil, List.all_cons, List.all_nil, Bool.and_true, Bool.true_and, seg, setSeg, List.drop_succ_cons, List.drop_zero, List.take_succ_cons, List.take_zero, List.cons_append, List.nil_append, List.append_nil, List.length_cons, List.length_nil, List.drop_nil, List.size_toArray, Nat.reduceAdd, Nat.reduceLeDiff, Nat.reduceBEq, Nat.zero_add, Nat.le_refl, decide_true, mkV, List.headD_cons, cellsV, w_fldV, w_ext, w_fldP, List.getElem?_toArray, List.getElem?_cons_zero, List.getElem?_cons_succ, beq_self_eq_true, selV]
    refine hK _ _ ⟨(g1.trans g2).trans g3, ?_⟩
    have : decide ((c.all.length : Int) ≤ 4) = decide c.may := by
      have : c.may ↔ (c.all.length : Int) ≤ 4 := ⟨fun h => by have := h.2; omega, fun hl => ⟨h, by omega⟩⟩
      simp only [this]
    rw [this]
  · rintro s H' ⟨g, rfl⟩
    exact hQ _ g

end Go.Proofs.YtlmpjhbfgakgdaaDoor
