/- Contracts: stashes, as the reference has them. -/
import Derived.Test.YtccdoecccaocjaaConSlot
namespace Go.Proofs.Ytccdoecccaocjaa
open Go.Ab Go.Md
set_option linter.unusedVariables false
set_option linter.unusedSimpArgs false
set_option maxRecDepth 20000

variable {H : Heap} {Q : Value → Heap → Prop} {A B C : Nat → Prop}

/-- The place of a number; -1: there is none. -/
def AtR (s : List Blk) (n k : Int) : Prop := (k = -1 ∧ ∀ b ∈ s, b.id ≠ n) ∨ ∃ (i : Nat) (b : Blk), k = (i : Int) ∧ s[i]? = some b ∧ b.id = n
theorem AtR.has {s : List Blk} {n k : Int} (h : AtR s n k) : 0 ≤ k ↔ hasB s n = true := by
  rw [hasB_iff]
  rcases h with ⟨rfl, h⟩ | ⟨i, b, rfl, hb, he⟩
  · exact ⟨fun h => absurd h (by omega), fun ⟨b, hb, he⟩ => absurd he (h b hb)⟩
  · exact ⟨fun _ => ⟨b, List.mem_of_getElem? hb, he⟩, fun _ => by omega⟩

theorem c_ref16_At {v : Value} {s : List Blk} {n : Int} (hv : Sl rBlk H A v s) (hl : s.length ≤ 1000000) (hQ : ∀ k, AtR s n k → Q (.int .i64 k) H) : callV Try.prog (fnV fn_ref16_At) [v, .int .i64 n] H Q := by
  apply S_ref16_At_of
  unfold S_ref16_At
  refine loop_up s.length (fun i st H' => H' = H ∧ st = [[.int .i64 (i : Int)]] ∧ ∀ b ∈ s.take i, b.id ≠ n) ⟨rfl, rfl, by simp⟩ ?_
  rintro i st H' K hi ⟨rfl, rfl, hno⟩ hK
  refine hv.len ?_
  try simp only [sv_cons, sv_cons1, sc_cons, sc_cons1, asB_bool, ifB_true, ifB_false, un_not, bin_lss, bin_leq, bin_gtr, bin_geq, bin_eql, bin_neq, bin_add, bin_sub, bin_mul, ok_int, ok_bool, ok_slice, ok_str, ok_ptr, ok_map, ok_func, ok_iface, ok_nil, List.all_cons, List.all_nil, Bool.and_true, Bool.true_and, seg, setSeg, List.drop_succ_cons, List.drop_zero, List.take_succ_cons, List.take_zero, List.cons_append, List.nil_append, List.append_nil, List.length_cons, List.length_nil, List.drop_nil, List.size_toArray, Nat.reduceAdd, Nat.reduceLeDiff, Nat.reduceBEq, Nat.zero_add, Nat.le_refl, decide_true, mkV, List.headD_cons, cellsV, w_fldV, w_ext, w_fldP, List.getElem?_toArray, List.getElem?_cons_zero, List.getElem?_cons_succ, beq_self_eq_true, selV]
  refine ifD_of (fun h1 => ?_) (fun h1 => ?_)
  · have hlt : i < s.length := by omega
    have hx : s[i]? = some s[i] := List.getElem?_eq_getElem hlt
    refine hv.ptr rfl hx fun bb o cs _ hcs ⟨ww, hc, hww⟩ => ?_
    subst hc
    refine fld_at (load_at (cellsAt_sub (p := 0) (m := 1) hcs (by decide)) ?_)
    try simp only [sv_cons, sv_cons1, sc_cons, sc_cons1, asB_bool, ifB_true, ifB_false, un_not, bin_lss, bin_leq, bin_gtr, bin_geq, bin_eql, bin_neq, bin_add, bin_sub, bin_mul, ok_int, ok_bool, ok_slice, ok_str, ok_ptr, ok_map, ok_func, ok_iface, ok_nil, List.all_cons, List.all_nil, Bool.and_true, Bool.true_and, seg, setSeg, List.drop_succ_cons, List.drop_zero, List.take_succ_cons, List.take_zero, List.cons_append, List.nil_append, List.append_nil, List.length_cons, List.length_nil, List.drop_nil, List.size_toArray, Nat.reduceAdd, Nat.reduceLeDiff, Nat.reduceBEq, Nat.zero_add, Nat.le_refl, decide_true, mkV, List.headD_cons, cellsV, w_fldV, w_ext, w_fldP, List.getElem?_toArray, List.getElem?_cons_zero, List.getElem?_cons_succ, beq_self_eq_true, selV]
    refine ifD_of (fun he => hQ _ (.inr ⟨i, _, rfl, hx, he⟩)) (fun he => ?_)
    rw [wrap_i64 (by unfold i64; omega)]
    refine hK _ _ hlt ⟨rfl, by simp, fun b hb => ?_⟩
    rw [List.take_succ_eq_append_getElem hlt, List.mem_append, List.mem_singleton] at hb
    rcases hb with hb | rfl
    · exact hno b hb
    · exact he
  · rw [List.take_of_length_le (by omega)] at hno
    exact hQ _ (.inl ⟨rfl, hno⟩)

theorem up_snoc {s : List Blk} {i : Nat} (hlt : i < s.length) (h : Up (s.take i)) (hc : ∀ j, j + 1 = i → (s[j]?.map (·.id)).getD 0 < s[i].id) : Up (s.take (i + 1)) := by
  rw [List.take_succ_eq_append_getElem hlt]
  refine List.pairwise_append.2 ⟨h, List.pairwise_singleton _ _, fun x hx y hy => ?_⟩
  rw [List.mem_singleton] at hy
  subst hy
  obtain ⟨j, hj⟩ := List.mem_iff_getElem?.1 hx
  rw [List.getElem?_take] at hj
  split at hj
  · rename_i hji
    have h1 := hc (i - 1) (by omega)
    have hl1 : i - 1 < s.length := by omega
    rw [List.getElem?_eq_getElem hl1] at h1
    simp at h1
    rcases Nat.lt_or_ge j (i - 1) with h2 | h2
    · have := List.pairwise_iff_getElem.1 h j (i - 1) (by rw [List.length_take]; omega) (by rw [List.length_take]; omega) h2
      rw [List.getElem_take, List.getElem_take] at this
      have h3 := (List.getElem?_eq_some_iff.1 hj).2
      rw [h3] at this
      omega
    · have e : j = i - 1 := by omega
      subst e
      have h3 := (List.getElem?_eq_some_iff.1 hj).2
      rw [← h3]; exact h1
  · cases hj
theorem not_up {s : List Blk} {i : Nat} (h1 : i + 1 < s.length) (h : s[i + 1].id ≤ s[i].id) : ¬ Up s := fun hu => by
  have := List.pairwise_iff_getElem.1 hu i (i + 1) (by omega) h1 (by omega)
  omega

theorem c_ref16_May {l : Lvl} {v : Value} {s : List Blk} (hh : 0 ≤ l.high ∧ l.high ≤ 62) (hv : Sl rBlk H A v s) (hl : s.length ≤ 1000000) (hQ : ∀ H', G H H' → Q (.bool (stMay l s)) H') : callV Try.prog (fnV fn_ref16_May) [.agg (cLvl l).toArray, v] H Q := by
  apply S_ref16_May_of
  unfold S_ref16_May
  refine newT_of fun H1 g1 _ => ?_
  refine loop_up s.length (fun i st H' => G H H' ∧ st = [[.int .i64 (i : Int)]] ∧ (∀ b ∈ s.take i, blkMay l b = true) ∧ Up (s.take i)) ⟨g1, rfl, by simp, by simp⟩ ?_
  rintro i st H' K hi ⟨g, rfl, hm, hu⟩ hK
  refine hv.len ?_
  try simp only [sv_cons, sv_cons1, sc_cons, sc_cons1, asB_bool, ifB_true, ifB_false, un_not, bin_lss, bin_leq, bin_gtr, bin_geq, bin_eql, bin_neq, bin_add, bin_sub, bin_mul, ok_int, ok_bool, ok_slice, ok_str, ok_ptr, ok_map, ok_func, ok_iface, ok_nil, List.all_cons, List.all_nil, Bool.and_true, Bool.true_and, seg, setSeg, List.drop_succ_cons, List.drop_zero, List.take_succ_cons, List.take_zero, List.cons_append, List.nil_append, List.append_nil, List.length_cons, List.length_nil, List.drop_nil, List.size_toArray, Nat.reduceAdd, Nat.reduceLeDiff, Nat.reduceBEq, Nat.zero_add, Nat.le_refl, decide_true, mkV, List.headD_cons, cellsV, w_fldV, w_ext, w_fldP, List.getElem?_toArray, List.getElem?_cons_zero, List.getElem?_cons_succ, beq_self_eq_true, selV]
  refine ifD_of (fun h1 => ?_) (fun h1 => ?_)
  · have hlt : i < s.length := by omega
    have hx : s[i]? = some s[i] := List.getElem?_eq_getElem hlt
    refine join_of (fun st H2 => G H H2 ∧ ∃ c : Bool, st = [[.bool c]] ∧ (c = false ↔ (blkMay l s[i] = true ∧ ∀ j, j + 1 = i → (s[j]?.map (·.id)).getD 0 < s[i].id))) (fun K hK => ?_) ?_
    · refine (hv.g g).get rfl hx fun cs ⟨w, hc, hw⟩ => ?_
      subst hc
      refine c_ref09_May hh hw fun H2 g2 => ?_
      cases hb : blkMay l s[i] with
      | false =>
        try simp only [sv_cons, sv_cons1, sc_cons, sc_cons1, asB_bool, ifB_true, ifB_false, un_not, bin_lss, bin_leq, bin_gtr, bin_geq, bin_eql, bin_neq, bin_add, bin_sub, bin_mul, ok_int, ok_bool, ok_slice, ok_str, ok_ptr, ok_map, ok_func, ok_iface, ok_nil, List.all_cons, List.all_nil, Bool.and_true, Bool.true_and, seg, setSeg, List.drop_succ_cons, List.drop_zero, List.take_succ_cons, List.take_zero, List.cons_append, List.nil_append, List.append_nil, List.length_cons, List.length_nil, List.drop_nil, List.size_toArray, Nat.reduceAdd, Nat.reduceLeDiff, Nat.reduceBEq, Nat.zero_add, Nat.le_refl, decide_true, mkV, List.headD_cons, cellsV, w_fldV, w_ext, w_fldP, List.getElem?_toArray, List.getElem?_cons_zero, List.getElem?_cons_succ, beq_self_eq_true, selV, Bool.not_false, true_and]
        exact hK _ _ ⟨g.trans g2, true, rfl, by simp [hb]⟩
      | true =>
        try simp only [sv_cons, sv_cons1, sc_cons, sc_cons1, asB_bool, ifB_true, ifB_false, un_not, bin_lss, bin_leq, bin_gtr, bin_geq, bin_eql, bin_neq, bin_add, bin_sub, bin_mul, ok_int, ok_bool, ok_slice, ok_str, ok_ptr, ok_map, ok_func, ok_iface, ok_nil, List.all_cons, List.all_nil, Bool.and_true, Bool.true_and, seg, setSeg, List.drop_succ_cons, List.drop_zero, List.take_succ_cons, List.take_zero, List.cons_append, List.nil_append, List.append_nil, List.length_cons, List.length_nil, List.drop_nil, List.size_toArray, Nat.reduceAdd, Nat.reduceLeDiff, Nat.reduceBEq, Nat.zero_add, Nat.le_refl, decide_true, mkV, List.headD_cons, cellsV, w_fldV, w_ext, w_fldP, List.getElem?_toArray, List.getElem?_cons_zero, List.getElem?_cons_succ, beq_self_eq_true, selV, Bool.not_true]
        refine ifD_of (fun h2 => ?_) (fun h2 => hK _ _ ⟨g.trans g2, false, rfl, by simp [hb]; intro j hj; omega⟩)
        have hx1 : s[i - 1]? = some (s[i - 1]'(by omega)) := List.getElem?_eq_getElem _
        refine (hv.g (g.trans g2)).ptr rfl hx fun bb o cs _ hcs ⟨ww, hc, hww⟩ => ?_
        subst hc
        refine fld_at (load_at (cellsAt_sub (p := 0) (m := 1) hcs (by decide)) ?_)
        try simp only [sv_cons, sv_cons1, sc_cons, sc_cons1, asB_bool, ifB_true, ifB_false, un_not, bin_lss, bin_leq, bin_gtr, bin_geq, bin_eql, bin_neq, bin_add, bin_sub, bin_mul, ok_int, ok_bool, ok_slice, ok_str, ok_ptr, ok_map, ok_func, ok_iface, ok_nil, List.all_cons, List.all_nil, Bool.and_true, Bool.true_and, seg, setSeg, List.drop_succ_cons, List.drop_zero, List.take_succ_cons, List.take_zero, List.cons_append, List.nil_append, List.append_nil, List.length_cons, List.length_nil, List.drop_nil, List.size_toArray, Nat.reduceAdd, Nat.reduceLeDiff, Nat.reduceBEq, Nat.zero_add, Nat.le_refl, decide_true, mkV, List.headD_cons, cellsV, w_fldV, w_ext, w_fldP, List.getElem?_toArray, List.getElem?_cons_zero, List.getElem?_cons_succ, beq_self_eq_true, selV]
        rw [wrap_i64 (by unfold i64; omega), show (i : Int) - 1 = ((i - 1 : Nat) : Int) by omega]
        refine (hv.g (g.trans g2)).ptr rfl hx1 fun bb o cs _ hcs ⟨ww, hc, hww⟩ => ?_
        subst hc
        refine fld_at (load_at (cellsAt_sub (p := 0) (m := 1) hcs (by decide)) ?_)
        try simp only [sv_cons, sv_cons1, sc_cons, sc_cons1, asB_bool, ifB_true, ifB_false, un_not, bin_lss, bin_leq, bin_gtr, bin_geq, bin_eql, bin_neq, bin_add, bin_sub, bin_mul, ok_int, ok_bool, ok_slice, ok_str, ok_ptr, ok_map, ok_func, ok_iface, ok_nil, List.all_cons, List.all_nil, Bool.and_true, Bool.true_and, seg, setSeg, List.drop_succ_cons, List.drop_zero, List.take_succ_cons, List.take_zero, List.cons_append, List.nil_append, List.append_nil, List.length_cons, List.length_nil, List.drop_nil, List.size_toArray, Nat.reduceAdd, Nat.reduceLeDiff, Nat.reduceBEq, Nat.zero_add, Nat.le_refl, decide_true, mkV, List.headD_cons, cellsV, w_fldV, w_ext, w_fldP, List.getElem?_toArray, List.getElem?_cons_zero, List.getElem?_cons_succ, beq_self_eq_true, selV]
        refine hK _ _ ⟨g.trans g2, _, rfl, ?_⟩
        rw [decide_eq_false_iff_not]
        refine ⟨fun hgt => ⟨hb, fun j hj => ?_⟩, fun h hle => ?_⟩
        · have e : j = i - 1 := by omega
          subst e
          rw [hx1]
          simp
          omega
        · have := h.2 (i - 1) (by omega)
          rw [hx1] at this
          simp at this
          omega
    rintro st H2 ⟨g2, c, rfl, hcc⟩
    try simp only [sv_cons, sv_cons1, sc_cons, sc_cons1, asB_bool, ifB_true, ifB_false, un_not, bin_lss, bin_leq, bin_gtr, bin_geq, bin_eql, bin_neq, bin_add, bin_sub, bin_mul, ok_int, ok_bool, ok_slice, ok_str, ok_ptr, ok_map, ok_func, ok_iface, ok_nil, List.all_cons, List.all_nil, Bool.and_true, Bool.true_and, seg, setSeg, List.drop_succ_cons, List.drop_zero, List.take_succ_cons, List.take_zero, List.cons_append, List.nil_append, List.append_nil, List.length_cons, List.length_nil, List.drop_nil, List.size_toArray, Nat.reduceAdd, Nat.reduceLeDiff, Nat.reduceBEq, Nat.zero_add, Nat.le_refl, decide_true, mkV, List.headD_cons, cellsV, w_fldV, w_ext, w_fldP, List.getElem?_toArray, List.getElem?_cons_zero, List.getElem?_cons_succ, beq_self_eq_true, selV]
    refine ifB_of (fun h2 => ?_) (fun h2 => ?_)
    · have : stMay l s = false := by
        cases hs : stMay l s with
        | false => rfl
        | true =>
          exfalso
          obtain ⟨m1, m2⟩ := stMay_iff.1 hs
          refine absurd (hcc.2 ⟨m1 _ (List.getElem_mem hlt), fun j hj => ?_⟩) (by rw [h2]; simp)
          have hj' : j < s.length := by omega
          rw [List.getElem?_eq_getElem hj']
          exact List.pairwise_iff_getElem.1 m2 j i hj' hlt (by omega)
      have hq := hQ H2 g2
      rw [this] at hq
      exact hq
    · obtain ⟨h3, h4⟩ := hcc.1 h2
      rw [wrap_i64 (by unfold i64; omega)]
      refine hK _ _ hlt ⟨g2, by simp, fun b hb => ?_, up_snoc hlt hu h4⟩
      rw [List.take_succ_eq_append_getElem hlt, List.mem_append, List.mem_singleton] at hb
      rcases hb with hb | rfl
      · exact hm b hb
      · exact h3
  · rw [List.take_of_length_le (by omega)] at hm hu
    have hq := hQ H' g
    rw [stMay_iff.2 ⟨hm, hu⟩] at hq
    exact hq

theorem c_ref16_Check {l : Lvl} {v : Value} {s : List Blk} (hw : i64 l.width) (hv : Sl rBlk H A v s) (hl : s.length ≤ 1000000) (hQ : ∀ H', G H H' → Q (.int .i64 (stE l s)) H') : callV Try.prog (fnV fn_ref16_Check) [.agg (cLvl l).toArray, v] H Q := by
  apply S_ref16_Check_of
  unfold S_ref16_Check
  refine newT_of fun H1 g1 _ => ?_
  refine join_of (fun st H' => G H H' ∧ st = [[.bool (decide (stE l s ≠ 0))]]) (fun K hK => c_ref09_Many hw fun H2 g2 => ?_) ?_
  · try simp only [sv_cons, sv_cons1, sc_cons, sc_cons1, asB_bool, ifB_true, ifB_false, un_not, bin_lss, bin_leq, bin_gtr, bin_geq, bin_eql, bin_neq, bin_add, bin_sub, bin_mul, ok_int, ok_bool, ok_slice, ok_str, ok_ptr, ok_map, ok_func, ok_iface, ok_nil, List.all_cons, List.all_nil, Bool.and_true, Bool.true_and, seg, setSeg, List.drop_succ_cons, List.drop_zero, List.take_succ_cons, List.take_zero, List.cons_append, List.nil_append, List.append_nil, List.length_cons, List.length_nil, List.drop_nil, List.size_toArray, Nat.reduceAdd, Nat.reduceLeDiff, Nat.reduceBEq, Nat.zero_add, Nat.le_refl, decide_true, mkV, List.headD_cons, cellsV, w_fldV, w_ext, w_fldP, List.getElem?_toArray, List.getElem?_cons_zero, List.getElem?_cons_succ, beq_self_eq_true, selV]
    refine ifD_of (fun h => hK _ _ ⟨g1.trans g2, jb_t (by rw [Ne, stE_0]; omega)⟩) (fun h => ?_)
    have hok := slotsL_pos (l := l) (by omega)
    refine c_ref16_May (by omega) (hv.g (g1.trans g2)) hl fun H3 g3 => ?_
    try simp only [sv_cons, sv_cons1, sc_cons, sc_cons1, asB_bool, ifB_true, ifB_false, un_not, bin_lss, bin_leq, bin_gtr, bin_geq, bin_eql, bin_neq, bin_add, bin_sub, bin_mul, ok_int, ok_bool, ok_slice, ok_str, ok_ptr, ok_map, ok_func, ok_iface, ok_nil, List.all_cons, List.all_nil, Bool.and_true, Bool.true_and, seg, setSeg, List.drop_succ_cons, List.drop_zero, List.take_succ_cons, List.take_zero, List.cons_append, List.nil_append, List.append_nil, List.length_cons, List.length_nil, List.drop_nil, List.size_toArray, Nat.reduceAdd, Nat.reduceLeDiff, Nat.reduceBEq, Nat.zero_add, Nat.le_refl, decide_true, mkV, List.headD_cons, cellsV, w_fldV, w_ext, w_fldP, List.getElem?_toArray, List.getElem?_cons_zero, List.getElem?_cons_succ, beq_self_eq_true, selV]
    refine hK _ _ ⟨(g1.trans g2).trans g3, ?_⟩
    cases hm : stMay l s with
    | true => exact jb_f (by rw [Ne, stE_0, hm]; simp; omega)
    | false => exact jb_t (by rw [Ne, stE_0, hm]; simp)
  rintro st H2 ⟨g, rfl⟩
  have hq := hQ H2 g
  try simp only [sv_cons, sv_cons1, sc_cons, sc_cons1, asB_bool, ifB_true, ifB_false, un_not, bin_lss, bin_leq, bin_gtr, bin_geq, bin_eql, bin_neq, bin_add, bin_sub, bin_mul, ok_int, ok_bool, ok_slice, ok_str, ok_ptr, ok_map, ok_func, ok_iface, ok_nil, List.all_cons, List.all_nil, Bool.and_true, Bool.true_and, seg, setSeg, List.drop_succ_cons, List.drop_zero, List.take_succ_cons, List.take_zero, List.cons_append, List.nil_append, List.append_nil, List.length_cons, List.length_nil, List.drop_nil, List.size_toArray, Nat.reduceAdd, Nat.reduceLeDiff, Nat.reduceBEq, Nat.zero_add, Nat.le_refl, decide_true, mkV, List.headD_cons, cellsV, w_fldV, w_ext, w_fldP, List.getElem?_toArray, List.getElem?_cons_zero, List.getElem?_cons_succ, beq_self_eq_true, selV]
  refine ifD_of (fun h => ?_) (fun h => ?_)
  · rw [stE_8 h] at hq; exact hq
  · rw [Classical.not_not.1 h] at hq; exact hq

theorem withF_nil {d : Bool} {b : Blk} : withF d [] b = if d then [] else [b] := rfl
theorem withF_cons {d : Bool} {x b : Blk} {s : List Blk} : withF d (x :: s) b = (if !d && decide (b.id ≤ x.id) then [b] else []) ++ (if x.id ≠ b.id then [x] else []) ++ withF (d || decide (b.id ≤ x.id)) s b := rfl

theorem c_ref16_With {v w : Value} {s : List Blk} {b : Blk} (hv : Sl rBlk H A v s) (hw : Sl rU8 H B w b.data) (hl : s.length ≤ 1000) (hf : ∀ x ∈ s, fits x) (hfb : fits b) (hu : Up s)
    (hQ : ∀ u H', Sl rBlk H' (fun y => H.size ≤ y) u (withB s b) → G H H' → Q u H') : callV Try.prog (fnV fn_ref16_With) [v, vBlk b w] H Q := by
  rw [← withF_up hu] at hQ
  apply S_ref16_With_of
  unfold S_ref16_With
  refine newT_of fun H1 g1 _ => ?_
  refine loop_up s.length (fun i st H' => ∃ u acc d, Bd rBlk H H' u acc ∧ acc ++ withF d (s.drop i) b = withF false s b ∧ acc.length ≤ i + (if d then 1 else 0) ∧ st = [[u], [.bool d], [.int .i64 (i : Int)]]) ⟨_, [], false, Bd.nil rBlk g1, by simp, by simp, rfl⟩ ?_
  rintro i st H' K hi ⟨u, acc, d, hb, he, hal, rfl⟩ hK
  have hal2 : acc.length ≤ 1001 := by split at hal <;> omega
  refine hv.len ?_
  try simp only [sv_cons, sv_cons1, sc_cons, sc_cons1, asB_bool, ifB_true, ifB_false, un_not, bin_lss, bin_leq, bin_gtr, bin_geq, bin_eql, bin_neq, bin_add, bin_sub, bin_mul, ok_int, ok_bool, ok_slice, ok_str, ok_ptr, ok_map, ok_func, ok_iface, ok_nil, List.all_cons, List.all_nil, Bool.and_true, Bool.true_and, seg, setSeg, List.drop_succ_cons, List.drop_zero, List.take_succ_cons, List.take_zero, List.cons_append, List.nil_append, List.append_nil, List.length_cons, List.length_nil, List.drop_nil, List.size_toArray, Nat.reduceAdd, Nat.reduceLeDiff, Nat.reduceBEq, Nat.zero_add, Nat.le_refl, decide_true, mkV, List.headD_cons, cellsV, w_fldV, w_ext, w_fldP, List.getElem?_toArray, List.getElem?_cons_zero, List.getElem?_cons_succ, beq_self_eq_true, selV]
  -- what puts the block behind
  have pushB : ∀ (H2 : Heap) (u : Value) (acc : List Blk) (K : Value → Heap → Prop), Bd rBlk H H2 u acc → acc.length ≤ 2000 → (∀ u' H3, Bd rBlk H H3 u' (acc ++ [b]) → K u' H3) →
      callV Try.prog (fnV fn_ref09_Twin) [vBlk b w] H2 fun t28 H => bldS 27 3 true (zeroL Try.prog 27) 1 [(0, t28)] H fun t29 H => appS 27 3 40 (zeroL Try.prog 27) u t29 H K := by
    intro H2 u acc K hb hac hk
    refine c_ref09_Twin (hw.g hb.g) hfb fun w2 H3 hw2 g2 => hb.push g2 (vrep_blk hw2) rfl (by decide) (fun h => by cases h) rfl rfl (fun y hy _ => hy) (by omega) (by omega) fun u' H3 hb' => hk u' H3 hb'
  refine ifD_of (fun h1 => ?_) (fun h1 => ?_)
  · have hlt : i < s.length := by omega
    have hx : s[i]? = some s[i] := List.getElem?_eq_getElem hlt
    have hdr : s.drop i = s[i] :: s.drop (i + 1) := List.drop_eq_getElem_cons hlt
    rw [hdr, withF_cons] at he
    refine join_of (fun st H2 => H2 = H' ∧ st = [[.bool (!d && decide (b.id ≤ s[i].id))]]) (fun K hK => ?_) ?_
    · cases d with
      | true => exact hK _ _ ⟨rfl, rfl⟩
      | false =>
        try simp only [sv_cons, sv_cons1, sc_cons, sc_cons1, asB_bool, ifB_true, ifB_false, un_not, bin_lss, bin_leq, bin_gtr, bin_geq, bin_eql, bin_neq, bin_add, bin_sub, bin_mul, ok_int, ok_bool, ok_slice, ok_str, ok_ptr, ok_map, ok_func, ok_iface, ok_nil, List.all_cons, List.all_nil, Bool.and_true, Bool.true_and, seg, setSeg, List.drop_succ_cons, List.drop_zero, List.take_succ_cons, List.take_zero, List.cons_append, List.nil_append, List.append_nil, List.length_cons, List.length_nil, List.drop_nil, List.size_toArray, Nat.reduceAdd, Nat.reduceLeDiff, Nat.reduceBEq, Nat.zero_add, Nat.le_refl, decide_true, mkV, List.headD_cons, cellsV, w_fldV, w_ext, w_fldP, List.getElem?_toArray, List.getElem?_cons_zero, List.getElem?_cons_succ, beq_self_eq_true, selV, Bool.not_false]
        refine (hv.g hb.g).ptr rfl hx fun bb o cs _ hcs ⟨ww, hc, hww⟩ => ?_
        subst hc
        refine fld_at (load_at (cellsAt_sub (p := 0) (m := 1) hcs (by decide)) ?_)
        try simp only [sv_cons, sv_cons1, sc_cons, sc_cons1, asB_bool, ifB_true, ifB_false, un_not, bin_lss, bin_leq, bin_gtr, bin_geq, bin_eql, bin_neq, bin_add, bin_sub, bin_mul, ok_int, ok_bool, ok_slice, ok_str, ok_ptr, ok_map, ok_func, ok_iface, ok_nil, List.all_cons, List.all_nil, Bool.and_true, Bool.true_and, seg, setSeg, List.drop_succ_cons, List.drop_zero, List.take_succ_cons, List.take_zero, List.cons_append, List.nil_append, List.append_nil, List.length_cons, List.length_nil, List.drop_nil, List.size_toArray, Nat.reduceAdd, Nat.reduceLeDiff, Nat.reduceBEq, Nat.zero_add, Nat.le_refl, decide_true, mkV, List.headD_cons, cellsV, w_fldV, w_ext, w_fldP, List.getElem?_toArray, List.getElem?_cons_zero, List.getElem?_cons_succ, beq_self_eq_true, selV]
        exact hK _ _ ⟨rfl, rfl⟩
    rintro st H2 ⟨rfl, rfl⟩
    try simp only [sv_cons, sv_cons1, sc_cons, sc_cons1, asB_bool, ifB_true, ifB_false, un_not, bin_lss, bin_leq, bin_gtr, bin_geq, bin_eql, bin_neq, bin_add, bin_sub, bin_mul, ok_int, ok_bool, ok_slice, ok_str, ok_ptr, ok_map, ok_func, ok_iface, ok_nil, List.all_cons, List.all_nil, Bool.and_true, Bool.true_and, seg, setSeg, List.drop_succ_cons, List.drop_zero, List.take_succ_cons, List.take_zero, List.cons_append, List.nil_append, List.append_nil, List.length_cons, List.length_nil, List.drop_nil, List.size_toArray, Nat.reduceAdd, Nat.reduceLeDiff, Nat.reduceBEq, Nat.zero_add, Nat.le_refl, decide_true, mkV, List.headD_cons, cellsV, w_fldV, w_ext, w_fldP, List.getElem?_toArray, List.getElem?_cons_zero, List.getElem?_cons_succ, beq_self_eq_true, selV]
    refine join_of (fun st H3 => ∃ u acc2, Bd rBlk H H3 u acc2 ∧ acc2 = acc ++ (if (!d && decide (b.id ≤ s[i].id)) = true then [b] else []) ∧ st = [[u], [.bool (d || decide (b.id ≤ s[i].id))]]) (fun K hK => ?_) ?_
    · refine ifB_of (fun hc => ?_) (fun hc => ?_)
      · refine pushB _ _ _ _ hb (by omega) fun u' H3 hb' => hK _ _ ⟨u', _, hb', by rw [if_pos hc], ?_⟩
        rw [Bool.and_eq_true] at hc
        rw [hc.2, Bool.or_true]
      · refine hK _ _ ⟨u, _, hb, by rw [if_neg (by rw [hc]; simp), List.append_nil], ?_⟩
        cases d with
        | true => rfl
        | false => rw [Bool.not_false, Bool.true_and] at hc; rw [hc]; rfl
    rintro st H3 ⟨u2, acc2, hb2, hac2, rfl⟩
    have hal3 : acc2.length ≤ i + (if (d || decide (b.id ≤ s[i].id)) = true then 1 else 0) := by
      rw [hac2, List.length_append]
      cases d with
      | true => simp at hal ⊢; omega
      | false =>
        simp at hal ⊢
        split <;> simp <;> omega
    try simp only [sv_cons, sv_cons1, sc_cons, sc_cons1, asB_bool, ifB_true, ifB_false, un_not, bin_lss, bin_leq, bin_gtr, bin_geq, bin_eql, bin_neq, bin_add, bin_sub, bin_mul, ok_int, ok_bool, ok_slice, ok_str, ok_ptr, ok_map, ok_func, ok_iface, ok_nil, List.all_cons, List.all_nil, Bool.and_true, Bool.true_and, seg, setSeg, List.drop_succ_cons, List.drop_zero, List.take_succ_cons, List.take_zero, List.cons_append, List.nil_append, List.append_nil, List.length_cons, List.length_nil, List.drop_nil, List.size_toArray, Nat.reduceAdd, Nat.reduceLeDiff, Nat.reduceBEq, Nat.zero_add, Nat.le_refl, decide_true, mkV, List.headD_cons, cellsV, w_fldV, w_ext, w_fldP, List.getElem?_toArray, List.getElem?_cons_zero, List.getElem?_cons_succ, beq_self_eq_true, selV]
    refine (hv.g hb2.g).ptr rfl hx fun bb o cs _ hcs ⟨ww, hc, hww⟩ => ?_
    subst hc
    refine fld_at (load_at (cellsAt_sub (p := 0) (m := 1) hcs (by decide)) ?_)
    try simp only [sv_cons, sv_cons1, sc_cons, sc_cons1, asB_bool, ifB_true, ifB_false, un_not, bin_lss, bin_leq, bin_gtr, bin_geq, bin_eql, bin_neq, bin_add, bin_sub, bin_mul, ok_int, ok_bool, ok_slice, ok_str, ok_ptr, ok_map, ok_func, ok_iface, ok_nil, List.all_cons, List.all_nil, Bool.and_true, Bool.true_and, seg, setSeg, List.drop_succ_cons, List.drop_zero, List.take_succ_cons, List.take_zero, List.cons_append, List.nil_append, List.append_nil, List.length_cons, List.length_nil, List.drop_nil, List.size_toArray, Nat.reduceAdd, Nat.reduceLeDiff, Nat.reduceBEq, Nat.zero_add, Nat.le_refl, decide_true, mkV, List.headD_cons, cellsV, w_fldV, w_ext, w_fldP, List.getElem?_toArray, List.getElem?_cons_zero, List.getElem?_cons_succ, beq_self_eq_true, selV]
    refine join_of (fun st H4 => ∃ u acc3, Bd rBlk H H4 u acc3 ∧ acc3 = acc2 ++ (if s[i].id ≠ b.id then [s[i]] else []) ∧ st = [[u]]) (fun K hK => ?_) ?_
    · refine ifD_of (fun hne => ?_) (fun hne => ?_)
      · refine (hv.g hb2.g).get rfl hx fun cs ⟨w2, hc, hw2⟩ => ?_
        subst hc
        refine c_ref09_Twin hw2 (hf _ (List.getElem_mem hlt)) fun w3 H5 hw3 g5 => hb2.push g5 (vrep_blk hw3) rfl (by decide) (fun h => by cases h) rfl rfl (fun y hy _ => hy) (by split at hal3 <;> omega) (by split at hal3 <;> omega) fun u' H6 hb' => hK _ _ ⟨u', _, hb', by rw [if_pos hne], rfl⟩
      · exact hK _ _ ⟨u2, _, hb2, by rw [if_neg hne, List.append_nil], rfl⟩
    rintro st H4 ⟨u3, acc3, hb3, hac3, rfl⟩
    try simp only [sv_cons, sv_cons1, sc_cons, sc_cons1, asB_bool, ifB_true, ifB_false, un_not, bin_lss, bin_leq, bin_gtr, bin_geq, bin_eql, bin_neq, bin_add, bin_sub, bin_mul, ok_int, ok_bool, ok_slice, ok_str, ok_ptr, ok_map, ok_func, ok_iface, ok_nil, List.all_cons, List.all_nil, Bool.and_true, Bool.true_and, seg, setSeg, List.drop_succ_cons, List.drop_zero, List.take_succ_cons, List.take_zero, List.cons_append, List.nil_append, List.append_nil, List.length_cons, List.length_nil, List.drop_nil, List.size_toArray, Nat.reduceAdd, Nat.reduceLeDiff, Nat.reduceBEq, Nat.zero_add, Nat.le_refl, decide_true, mkV, List.headD_cons, cellsV, w_fldV, w_ext, w_fldP, List.getElem?_toArray, List.getElem?_cons_zero, List.getElem?_cons_succ, beq_self_eq_true, selV]
    rw [wrap_i64 (by unfold i64; omega)]
    refine hK _ _ hlt ⟨u3, acc3, _, hb3, ?_, ?_, by simp; rfl⟩
    · rw [hac3, hac2]; simpa [List.append_assoc] using he
    · have h9 : (if s[i].id ≠ b.id then [s[i]] else []).length ≤ 1 := by split <;> simp
      rw [hac3, List.length_append]; omega
  · rw [List.drop_of_length_le (by omega), withF_nil] at he
    cases d with
    | true =>
      refine join_of (fun st H2 => H2 = H' ∧ st = [[u]]) (fun K hK => hK _ _ ⟨rfl, rfl⟩) ?_
      rintro st H2 ⟨rfl, rfl⟩
      rw [← he]at hQ
      simp at hQ
      exact hQ u H2 hb.sl hb.g
    | false =>
      try simp only [sv_cons, sv_cons1, sc_cons, sc_cons1, asB_bool, ifB_true, ifB_false, un_not, bin_lss, bin_leq, bin_gtr, bin_geq, bin_eql, bin_neq, bin_add, bin_sub, bin_mul, ok_int, ok_bool, ok_slice, ok_str, ok_ptr, ok_map, ok_func, ok_iface, ok_nil, List.all_cons, List.all_nil, Bool.and_true, Bool.true_and, seg, setSeg, List.drop_succ_cons, List.drop_zero, List.take_succ_cons, List.take_zero, List.cons_append, List.nil_append, List.append_nil, List.length_cons, List.length_nil, List.drop_nil, List.size_toArray, Nat.reduceAdd, Nat.reduceLeDiff, Nat.reduceBEq, Nat.zero_add, Nat.le_refl, decide_true, mkV, List.headD_cons, cellsV, w_fldV, w_ext, w_fldP, List.getElem?_toArray, List.getElem?_cons_zero, List.getElem?_cons_succ, beq_self_eq_true, selV, Bool.not_false]
      refine join_of (fun st H2 => ∃ u, Bd rBlk H H2 u (acc ++ [b]) ∧ st = [[u]]) (fun K hK => pushB _ _ _ _ hb (by omega) fun u' H3 hb' => hK _ _ ⟨u', hb', rfl⟩) ?_
      rintro st H2 ⟨u2, hb2, rfl⟩
      rw [← he] at hQ
      exact hQ u2 H2 hb2.sl hb2.g

theorem c_ref16_Without {v : Value} {s : List Blk} {n : Int} (hv : Sl rBlk H A v s) (hl : s.length ≤ 1000) (hf : ∀ x ∈ s, fits x) (hQ : ∀ u H', Sl rBlk H' (fun y => H.size ≤ y) u (withoutB s n) → G H H' → Q u H') :
    callV Try.prog (fnV fn_ref16_Without) [v, .int .i64 n] H Q := by
  apply S_ref16_Without_of
  unfold S_ref16_Without
  refine loop_up s.length (fun i st H' => ∃ u, Bd rBlk H H' u (withoutB (s.take i) n) ∧ st = [[u], [.int .i64 (i : Int)]]) ⟨_, by simpa [withoutB] using Bd.nil rBlk (Fr.refl _ H), rfl⟩ ?_
  rintro i st H' K hi ⟨u, hb, rfl⟩ hK
  refine hv.len ?_
  try simp only [sv_cons, sv_cons1, sc_cons, sc_cons1, asB_bool, ifB_true, ifB_false, un_not, bin_lss, bin_leq, bin_gtr, bin_geq, bin_eql, bin_neq, bin_add, bin_sub, bin_mul, ok_int, ok_bool, ok_slice, ok_str, ok_ptr, ok_map, ok_func, ok_iface, ok_nil, List.all_cons, List.all_nil, Bool.and_true, Bool.true_and, seg, setSeg, List.drop_succ_cons, List.drop_zero, List.take_succ_cons, List.take_zero, List.cons_append, List.nil_append, List.append_nil, List.length_cons, List.length_nil, List.drop_nil, List.size_toArray, Nat.reduceAdd, Nat.reduceLeDiff, Nat.reduceBEq, Nat.zero_add, Nat.le_refl, decide_true, mkV, List.headD_cons, cellsV, w_fldV, w_ext, w_fldP, List.getElem?_toArray, List.getElem?_cons_zero, List.getElem?_cons_succ, beq_self_eq_true, selV]
  refine ifD_of (fun h1 => ?_) (fun h1 => ?_)
  · have hlt : i < s.length := by omega
    have hx : s[i]? = some s[i] := List.getElem?_eq_getElem hlt
    have hwl : (withoutB (s.take i) n).length ≤ i := Nat.le_trans (List.length_filter_le _ _) (by rw [List.length_take]; omega)
    refine (hv.g hb.g).ptr rfl hx fun bb o cs _ hcs ⟨ww, hc, hww⟩ => ?_
    subst hc
    refine fld_at (load_at (cellsAt_sub (p := 0) (m := 1) hcs (by decide)) ?_)
    try simp only [sv_cons, sv_cons1, sc_cons, sc_cons1, asB_bool, ifB_true, ifB_false, un_not, bin_lss, bin_leq, bin_gtr, bin_geq, bin_eql, bin_neq, bin_add, bin_sub, bin_mul, ok_int, ok_bool, ok_slice, ok_str, ok_ptr, ok_map, ok_func, ok_iface, ok_nil, List.all_cons, List.all_nil, Bool.and_true, Bool.true_and, seg, setSeg, List.drop_succ_cons, List.drop_zero, List.take_succ_cons, List.take_zero, List.cons_append, List.nil_append, List.append_nil, List.length_cons, List.length_nil, List.drop_nil, List.size_toArray, Nat.reduceAdd, Nat.reduceLeDiff, Nat.reduceBEq, Nat.zero_add, Nat.le_refl, decide_true, mkV, List.headD_cons, cellsV, w_fldV, w_ext, w_fldP, List.getElem?_toArray, List.getElem?_cons_zero, List.getElem?_cons_succ, beq_self_eq_true, selV]
    have hst : withoutB (s.take (i + 1)) n = withoutB (s.take i) n ++ (if s[i].id ≠ n then [s[i]] else []) := by
      unfold withoutB
      rw [List.take_succ_eq_append_getElem hlt, List.filter_append, List.filter_cons, List.filter_nil]
      congr 1
      by_cases he : s[i].id = n <;> simp [he]
    refine join_of (fun st H4 => ∃ u, Bd rBlk H H4 u (withoutB (s.take (i + 1)) n) ∧ st = [[u]]) (fun K hK => ?_) ?_
    · refine ifD_of (fun hne => ?_) (fun hne => ?_)
      · rw [hst, if_pos hne] at hK
        refine (hv.g hb.g).get rfl hx fun cs ⟨w2, hc, hw2⟩ => ?_
        subst hc
        refine c_ref09_Twin hw2 (hf _ (List.getElem_mem hlt)) fun w3 H5 hw3 g5 => hb.push g5 (vrep_blk hw3) rfl (by decide) (fun h => by cases h) rfl rfl (fun y hy _ => hy) (by omega) (by omega) fun u' H6 hb' => hK _ _ ⟨u', hb', rfl⟩
      · rw [hst, if_neg hne, List.append_nil] at hK
        exact hK _ _ ⟨u, hb, rfl⟩
    rintro st H4 ⟨u3, hb3, rfl⟩
    try simp only [sv_cons, sv_cons1, sc_cons, sc_cons1, asB_bool, ifB_true, ifB_false, un_not, bin_lss, bin_leq, bin_gtr, bin_geq, bin_eql, bin_neq, bin_add, bin_sub, bin_mul, ok_int, ok_bool, ok_slice, ok_str, ok_ptr, ok_map, ok_func, ok_iface, ok_nil, List.all_cons, List.all_nil, Bool.and_true, Bool.true_and, seg, setSeg, List.drop_succ_cons, List.drop_zero, List.take_succ_cons, List.take_zero, List.cons_append, List.nil_append, List.append_nil, List.length_cons, List.length_nil, List.drop_nil, List.size_toArray, Nat.reduceAdd, Nat.reduceLeDiff, Nat.reduceBEq, Nat.zero_add, Nat.le_refl, decide_true, mkV, List.headD_cons, cellsV, w_fldV, w_ext, w_fldP, List.getElem?_toArray, List.getElem?_cons_zero, List.getElem?_cons_succ, beq_self_eq_true, selV]
    rw [wrap_i64 (by unfold i64; omega)]
    exact hK _ _ hlt ⟨u3, hb3, by simp⟩
  · rw [List.take_of_length_le (by omega)] at hb
    exact hQ u H' hb.sl hb.g

/-- A stash that may be is small. -/
theorem may_fits {l : Lvl} {b : Blk} (h : blkMay l b = true) (hs : 1 ≤ slotsL l) : b.data.length ≤ 32 := by
  have := slotsL_pos hs
  unfold blkMay at h
  simp at h
  omega

theorem c_ref16_Find {l : Lvl} {v : Value} {s : List Blk} {n : Int} (hw : i64 l.width) (hv : Sl rBlk H A v s) (hl : s.length ≤ 1000) (hQ : ∀ u H', Sl rU8 H' (fun y => H.size ≤ y) u (findV l s n).data → G H H' → Q (tup2 (vBlk (findV l s n) u) (.bool (isV l s n))) H') :
    callV Try.prog (fnV fn_ref16_Find) [.agg (cLvl l).toArray, v, .int .i64 n] H Q := by
  apply S_ref16_Find_of
  unfold S_ref16_Find
  refine newT_of fun H1 g1 s1 => newT_of fun H2 g2 s2 => ?_
  have g12 := g1.trans g2
  refine join_of (fun st H' => G H H' ∧ H2.size ≤ H'.size ∧ st = [[.bool (decide (isV l s n = false))]]) (fun K hK => c_ref16_Check hw (hv.g g12) (by omega) fun H3 g3 => ?_) ?_
  · try simp only [sv_cons, sv_cons1, sc_cons, sc_cons1, asB_bool, ifB_true, ifB_false, un_not, bin_lss, bin_leq, bin_gtr, bin_geq, bin_eql, bin_neq, bin_add, bin_sub, bin_mul, ok_int, ok_bool, ok_slice, ok_str, ok_ptr, ok_map, ok_func, ok_iface, ok_nil, List.all_cons, List.all_nil, Bool.and_true, Bool.true_and, seg, setSeg, List.drop_succ_cons, List.drop_zero, List.take_succ_cons, List.take_zero, List.cons_append, List.nil_append, List.append_nil, List.length_cons, List.length_nil, List.drop_nil, List.size_toArray, Nat.reduceAdd, Nat.reduceLeDiff, Nat.reduceBEq, Nat.zero_add, Nat.le_refl, decide_true, mkV, List.headD_cons, cellsV, w_fldV, w_ext, w_fldP, List.getElem?_toArray, List.getElem?_cons_zero, List.getElem?_cons_succ, beq_self_eq_true, selV]
    refine ifD_of (fun h => hK _ _ ⟨g12.trans g3, g3.size, jb_t (by unfold isV; rw [decide_eq_false h]; rfl)⟩) (fun h => ?_)
    refine c_ref16_At (hv.g (g12.trans g3)) (by omega) fun k hk => ?_
    try simp only [sv_cons, sv_cons1, sc_cons, sc_cons1, asB_bool, ifB_true, ifB_false, un_not, bin_lss, bin_leq, bin_gtr, bin_geq, bin_eql, bin_neq, bin_add, bin_sub, bin_mul, ok_int, ok_bool, ok_slice, ok_str, ok_ptr, ok_map, ok_func, ok_iface, ok_nil, List.all_cons, List.all_nil, Bool.and_true, Bool.true_and, seg, setSeg, List.drop_succ_cons, List.drop_zero, List.take_succ_cons, List.take_zero, List.cons_append, List.nil_append, List.append_nil, List.length_cons, List.length_nil, List.drop_nil, List.size_toArray, Nat.reduceAdd, Nat.reduceLeDiff, Nat.reduceBEq, Nat.zero_add, Nat.le_refl, decide_true, mkV, List.headD_cons, cellsV, w_fldV, w_ext, w_fldP, List.getElem?_toArray, List.getElem?_cons_zero, List.getElem?_cons_succ, beq_self_eq_true, selV]
    refine hK _ _ ⟨g12.trans g3, g3.size, jb_d ?_⟩
    have := hk.has
    unfold isV
    rw [decide_eq_true (Classical.not_not.1 h), Bool.true_and]
    cases hh : hasB s n with
    | true => rw [hh] at this; simp at this ⊢; omega
    | false => rw [hh] at this; simp at this ⊢; omega
  rintro st H3 ⟨g, hsz, rfl⟩
  try simp only [sv_cons, sv_cons1, sc_cons, sc_cons1, asB_bool, ifB_true, ifB_false, un_not, bin_lss, bin_leq, bin_gtr, bin_geq, bin_eql, bin_neq, bin_add, bin_sub, bin_mul, ok_int, ok_bool, ok_slice, ok_str, ok_ptr, ok_map, ok_func, ok_iface, ok_nil, List.all_cons, List.all_nil, Bool.and_true, Bool.true_and, seg, setSeg, List.drop_succ_cons, List.drop_zero, List.take_succ_cons, List.take_zero, List.cons_append, List.nil_append, List.append_nil, List.length_cons, List.length_nil, List.drop_nil, List.size_toArray, Nat.reduceAdd, Nat.reduceLeDiff, Nat.reduceBEq, Nat.zero_add, Nat.le_refl, decide_true, mkV, List.headD_cons, cellsV, w_fldV, w_ext, w_fldP, List.getElem?_toArray, List.getElem?_cons_zero, List.getElem?_cons_succ, beq_self_eq_true, selV]
  refine ifD_of (fun h => ?_) (fun h => ?_)
  · have e1 : findV l s n = blk0 := by
      unfold isV at h
      unfold findV
      split
      · rename_i h0
        rw [decide_eq_true h0, Bool.true_and] at h
        have : findB s n = none := by
          unfold findB
          rw [List.find?_eq_none]
          intro b hb he
          have : hasB s n = true := hasB_iff.2 ⟨b, hb, by simpa using he⟩
          rw [h] at this; cases this
        rw [this]; rfl
      · rfl
    have := hQ (.slice none 0 0) H3 (by rw [e1]; exact Sl.nil _ _ _ _ _) g
    rw [e1, h] at this
    exact this
  · have h : isV l s n = true := by simpa using h
    have h2 := h
    unfold isV at h2
    rw [Bool.and_eq_true, decide_eq_true_eq] at h2
    obtain ⟨hs0, hm⟩ := stE_0.1 h2.1
    have hu := stMay_up hm
    refine c_ref16_At (hv.g g) (by omega) fun k hk => ?_
    rcases hk with ⟨rfl, hno⟩ | ⟨i, b, rfl, hb, he⟩
    · obtain ⟨b, hb, he⟩ := hasB_iff.1 h2.2
      exact absurd he (hno b hb)
    · have e1 : findV l s n = b := by
        unfold findV
        rw [if_pos h2.1, ← he, find_of hu (List.mem_of_getElem? hb)]; rfl
      refine (hv.g g).get rfl hb fun cs ⟨w, hc, hw2⟩ => ?_
      subst hc
      have hfb := may_fits (stMay_mem hm b (List.mem_of_getElem? hb)) hs0
      refine c_ref09_Twin hw2 (by unfold fits; omega) fun u H4 hu4 g4 => ?_
      have hok := hu4.okcv
      try simp only [sv_cons, sv_cons1, sc_cons, sc_cons1, asB_bool, ifB_true, ifB_false, un_not, bin_lss, bin_leq, bin_gtr, bin_geq, bin_eql, bin_neq, bin_add, bin_sub, bin_mul, ok_int, ok_bool, ok_slice, ok_str, ok_ptr, ok_map, ok_func, ok_iface, ok_nil, List.all_cons, List.all_nil, Bool.and_true, Bool.true_and, seg, setSeg, List.drop_succ_cons, List.drop_zero, List.take_succ_cons, List.take_zero, List.cons_append, List.nil_append, List.append_nil, List.length_cons, List.length_nil, List.drop_nil, List.size_toArray, Nat.reduceAdd, Nat.reduceLeDiff, Nat.reduceBEq, Nat.zero_add, Nat.le_refl, decide_true, mkV, List.headD_cons, cellsV, w_fldV, w_ext, w_fldP, List.getElem?_toArray, List.getElem?_cons_zero, List.getElem?_cons_succ, beq_self_eq_true, selV, hok]
      have hg := g.size
      have := hQ u H4 (by rw [e1]; exact hu4.mono fun y hy _ => by omega) (g.trans g4)
      rw [e1, h] at this
      exact this

theorem c_ref16_Put {l : Lvl} {v w : Value} {s : List Blk} {b : Blk} (hw : i64 l.width) (hv : Sl rBlk H A v s) (hb : Sl rU8 H B w b.data) (hl : s.length ≤ 1000) (hQ : ∀ u H', Sl rBlk H' (fun y => H.size ≤ y) u (putV l s b) → G H H' → Q (tup2 u (.int .i64 (putE l s b))) H') :
    callV Try.prog (fnV fn_ref16_Put) [.agg (cLvl l).toArray, v, vBlk b w] H Q := by
  apply S_ref16_Put_of
  unfold S_ref16_Put
  refine newT_of fun H1 g1 s1 => newT_of fun H2 g2 s2 => ?_
  have g12 := g1.trans g2
  refine join_of (fun st H' => G H H' ∧ st = [[.bool (decide (putE l s b ≠ 0))]]) (fun K hK => c_ref16_Check hw (hv.g g12) (by omega) fun H3 g3 => ?_) ?_
  · have g := g12.trans g3
    try simp only [sv_cons, sv_cons1, sc_cons, sc_cons1, asB_bool, ifB_true, ifB_false, un_not, bin_lss, bin_leq, bin_gtr, bin_geq, bin_eql, bin_neq, bin_add, bin_sub, bin_mul, ok_int, ok_bool, ok_slice, ok_str, ok_ptr, ok_map, ok_func, ok_iface, ok_nil, List.all_cons, List.all_nil, Bool.and_true, Bool.true_and, seg, setSeg, List.drop_succ_cons, List.drop_zero, List.take_succ_cons, List.take_zero, List.cons_append, List.nil_append, List.append_nil, List.length_cons, List.length_nil, List.drop_nil, List.size_toArray, Nat.reduceAdd, Nat.reduceLeDiff, Nat.reduceBEq, Nat.zero_add, Nat.le_refl, decide_true, mkV, List.headD_cons, cellsV, w_fldV, w_ext, w_fldP, List.getElem?_toArray, List.getElem?_cons_zero, List.getElem?_cons_succ, beq_self_eq_true, selV]
    refine ifD_of (fun h => hK _ _ ⟨g, jb_t (by unfold putE; rw [if_neg (fun hh => h hh.1)]; omega)⟩) (fun h => ?_)
    have h := Classical.not_not.1 h
    have hs := (stE_0.1 h).1
    have hok := slotsL_pos hs
    refine c_ref09_May (by omega) (hb.g g) fun H4 g4 => ?_
    try simp only [sv_cons, sv_cons1, sc_cons, sc_cons1, asB_bool, ifB_true, ifB_false, un_not, bin_lss, bin_leq, bin_gtr, bin_geq, bin_eql, bin_neq, bin_add, bin_sub, bin_mul, ok_int, ok_bool, ok_slice, ok_str, ok_ptr, ok_map, ok_func, ok_iface, ok_nil, List.all_cons, List.all_nil, Bool.and_true, Bool.true_and, seg, setSeg, List.drop_succ_cons, List.drop_zero, List.take_succ_cons, List.take_zero, List.cons_append, List.nil_append, List.append_nil, List.length_cons, List.length_nil, List.drop_nil, List.size_toArray, Nat.reduceAdd, Nat.reduceLeDiff, Nat.reduceBEq, Nat.zero_add, Nat.le_refl, decide_true, mkV, List.headD_cons, cellsV, w_fldV, w_ext, w_fldP, List.getElem?_toArray, List.getElem?_cons_zero, List.getElem?_cons_succ, beq_self_eq_true, selV]
    refine hK _ _ ⟨g.trans g4, ?_⟩
    unfold putE
    cases hm : blkMay l b with
    | true => exact jb_f (by rw [if_pos ⟨h, blkE_0.2 ⟨hs, hm⟩⟩]; simp)
    | false => exact jb_t (by rw [if_neg (fun hh => by have := (blkE_0.1 hh.2).2; rw [hm] at this; cases this)]; omega)
  rintro st H3 ⟨g, rfl⟩
  try simp only [sv_cons, sv_cons1, sc_cons, sc_cons1, asB_bool, ifB_true, ifB_false, un_not, bin_lss, bin_leq, bin_gtr, bin_geq, bin_eql, bin_neq, bin_add, bin_sub, bin_mul, ok_int, ok_bool, ok_slice, ok_str, ok_ptr, ok_map, ok_func, ok_iface, ok_nil, List.all_cons, List.all_nil, Bool.and_true, Bool.true_and, seg, setSeg, List.drop_succ_cons, List.drop_zero, List.take_succ_cons, List.take_zero, List.cons_append, List.nil_append, List.append_nil, List.length_cons, List.length_nil, List.drop_nil, List.size_toArray, Nat.reduceAdd, Nat.reduceLeDiff, Nat.reduceBEq, Nat.zero_add, Nat.le_refl, decide_true, mkV, List.headD_cons, cellsV, w_fldV, w_ext, w_fldP, List.getElem?_toArray, List.getElem?_cons_zero, List.getElem?_cons_succ, beq_self_eq_true, selV]
  refine ifD_of (fun h => ?_) (fun h => ?_)
  · have e : putE l s b = 8 := by unfold putE at h ⊢; split <;> simp_all
    have := hQ (.slice none 0 0) H3 (by unfold putV; rw [if_neg h]; exact Sl.nil _ _ _ _ _) g
    rw [e] at this
    exact this
  · have h := Classical.not_not.1 h
    have h2 : stE l s = 0 ∧ blkE l b = 0 := Classical.byContradiction fun hh => by unfold putE at h; rw [if_neg hh] at h; cases h
    obtain ⟨hs0, hm⟩ := stE_0.1 h2.1
    refine c_ref16_With (hv.g g) (hb.g g) hl (fun x hx => by have := may_fits (stMay_mem hm x hx) hs0; unfold fits; omega) (by have := may_fits (blkE_0.1 h2.2).2 hs0; unfold fits; omega) (stMay_up hm) fun u H4 hu g4 => ?_
    have hg := g.size
    have := hQ u H4 (by unfold putV; rw [if_pos h]; exact hu.mono fun y hy _ => by omega) (g.trans g4)
    rw [h] at this
    exact this

theorem c_ref16_Drop {l : Lvl} {v : Value} {s : List Blk} {n : Int} (hw : i64 l.width) (hv : Sl rBlk H A v s) (hl : s.length ≤ 1000) (hQ : ∀ u H', Sl rBlk H' (fun y => H.size ≤ y) u (dropV l s n) → G H H' → Q (tup2 u (.int .i64 (dropE l s n))) H') :
    callV Try.prog (fnV fn_ref16_Drop) [.agg (cLvl l).toArray, v, .int .i64 n] H Q := by
  apply S_ref16_Drop_of
  unfold S_ref16_Drop
  refine newT_of fun H1 g1 s1 => c_ref16_Check hw (hv.g g1) (by omega) fun H3 g3 => ?_
  have g := g1.trans g3
  try simp only [sv_cons, sv_cons1, sc_cons, sc_cons1, asB_bool, ifB_true, ifB_false, un_not, bin_lss, bin_leq, bin_gtr, bin_geq, bin_eql, bin_neq, bin_add, bin_sub, bin_mul, ok_int, ok_bool, ok_slice, ok_str, ok_ptr, ok_map, ok_func, ok_iface, ok_nil, List.all_cons, List.all_nil, Bool.and_true, Bool.true_and, seg, setSeg, List.drop_succ_cons, List.drop_zero, List.take_succ_cons, List.take_zero, List.cons_append, List.nil_append, List.append_nil, List.length_cons, List.length_nil, List.drop_nil, List.size_toArray, Nat.reduceAdd, Nat.reduceLeDiff, Nat.reduceBEq, Nat.zero_add, Nat.le_refl, decide_true, mkV, List.headD_cons, cellsV, w_fldV, w_ext, w_fldP, List.getElem?_toArray, List.getElem?_cons_zero, List.getElem?_cons_succ, beq_self_eq_true, selV]
  refine ifD_of (fun h => ?_) (fun h => ?_)
  · have e : dropE l s n = 8 := by unfold dropE; rw [if_neg h]
    have := hQ (.slice none 0 0) H3 (by unfold dropV; rw [e]; exact Sl.nil _ _ _ _ _) g
    rw [e] at this
    exact this
  · have h := Classical.not_not.1 h
    obtain ⟨hs0, hm⟩ := stE_0.1 h
    refine c_ref16_At (hv.g g) (by omega) fun k hk => ?_
    have hh := hk.has
    try simp only [sv_cons, sv_cons1, sc_cons, sc_cons1, asB_bool, ifB_true, ifB_false, un_not, bin_lss, bin_leq, bin_gtr, bin_geq, bin_eql, bin_neq, bin_add, bin_sub, bin_mul, ok_int, ok_bool, ok_slice, ok_str, ok_ptr, ok_map, ok_func, ok_iface, ok_nil, List.all_cons, List.all_nil, Bool.and_true, Bool.true_and, seg, setSeg, List.drop_succ_cons, List.drop_zero, List.take_succ_cons, List.take_zero, List.cons_append, List.nil_append, List.append_nil, List.length_cons, List.length_nil, List.drop_nil, List.size_toArray, Nat.reduceAdd, Nat.reduceLeDiff, Nat.reduceBEq, Nat.zero_add, Nat.le_refl, decide_true, mkV, List.headD_cons, cellsV, w_fldV, w_ext, w_fldP, List.getElem?_toArray, List.getElem?_cons_zero, List.getElem?_cons_succ, beq_self_eq_true, selV]
    refine ifD_of (fun h1 => ?_) (fun h1 => ?_)
    · have hno : hasB s n = false := by cases hx : hasB s n with | false => rfl | true => rw [hx] at hh; simp at hh; omega
      have e : dropE l s n = 6 := by unfold dropE; rw [if_pos h, hno]; rfl
      have := hQ (.slice none 0 0) H3 (by unfold dropV; rw [e]; exact Sl.nil _ _ _ _ _) g
      rw [e] at this
      exact this
    · have hyes : hasB s n = true := hh.1 (by omega)
      have e : dropE l s n = 0 := by unfold dropE; rw [if_pos h, hyes]; rfl
      refine c_ref16_Without (hv.g g) hl (fun x hx => by have := may_fits (stMay_mem hm x hx) hs0; unfold fits; omega) fun u H4 hu g4 => ?_
      have hg := g.size
      have := hQ u H4 (by unfold dropV; rw [if_pos e]; exact hu.mono fun y hy _ => by omega) (g.trans g4)
      rw [e] at this
      exact this

theorem more_step {s : List Blk} {b : Blk} (hu : Up s) (hf : ∀ x ∈ s, fits x) (hfb : fits b) : Up (withB s b) ∧ (∀ x ∈ withB s b, fits x) ∧ (withB s b).length ≤ s.length + 1 :=
  ⟨withB_up hu b, fun x hx => by rcases mem_withB hx with rfl | hx; exact hfb; exact hf x hx, withB_len hu⟩

theorem moreF_snoc : ∀ {more s : List Blk} {b : Blk}, moreF s (more ++ [b]) = (moreF s more).bind fun t => if hasB t b.id then none else some (withB t b)
  | [], s, b => rfl
  | x :: more, s, b => by
    simp only [List.cons_append, moreF]
    split
    · rfl
    · exact moreF_snoc
theorem moreF_none {more more' s : List Blk} (h : moreF s more = none) : moreF s (more ++ more') = none := by
  induction more generalizing s with
  | nil => cases h
  | cons x more ih =>
    simp only [List.cons_append, moreF] at h ⊢
    split
    · rfl
    · rename_i hx; rw [if_neg hx] at h; exact ih h

theorem c_ref16_More {v w : Value} {s more : List Blk} (hv : Sl rBlk H A v s) (hw : Sl rBlk H B w more) (hl : s.length ≤ 500) (hl2 : more.length ≤ 400) (hf : ∀ x ∈ s, fits x) (hf2 : ∀ x ∈ more, fits x) (hu : Up s)
    (hQ : ∀ u H', Sl rBlk H' (fun y => H.size ≤ y) u ((moreF s more).getD []) → G H H' → Q (tup2 u (.bool (moreF s more).isSome)) H') : callV Try.prog (fnV fn_ref16_More) [v, w] H Q := by
  apply S_ref16_More_of
  unfold S_ref16_More
  refine c_ref09_TwinAll hv (by omega) hf fun v1 H1 hv1 g1 => ?_
  refine loop_up more.length (fun i st H' => ∃ u t, Sl rBlk H' (fun y => H.size ≤ y) u t ∧ G H H' ∧ moreF s (more.take i) = some t ∧ Up t ∧ (∀ x ∈ t, fits x) ∧ t.length ≤ s.length + i ∧ st = [[u], [.int .i64 (i : Int)]]) ⟨v1, s, hv1, g1, by simp [moreF], hu, hf, by omega, rfl⟩ ?_
  rintro i st H' K hi ⟨u, t, ht, g, hm, hut, hft, htl, rfl⟩ hK
  refine hw.len ?_
  try simp only [sv_cons, sv_cons1, sc_cons, sc_cons1, asB_bool, ifB_true, ifB_false, un_not, bin_lss, bin_leq, bin_gtr, bin_geq, bin_eql, bin_neq, bin_add, bin_sub, bin_mul, ok_int, ok_bool, ok_slice, ok_str, ok_ptr, ok_map, ok_func, ok_iface, ok_nil, List.all_cons, List.all_nil, Bool.and_true, Bool.true_and, seg, setSeg, List.drop_succ_cons, List.drop_zero, List.take_succ_cons, List.take_zero, List.cons_append, List.nil_append, List.append_nil, List.length_cons, List.length_nil, List.drop_nil, List.size_toArray, Nat.reduceAdd, Nat.reduceLeDiff, Nat.reduceBEq, Nat.zero_add, Nat.le_refl, decide_true, mkV, List.headD_cons, cellsV, w_fldV, w_ext, w_fldP, List.getElem?_toArray, List.getElem?_cons_zero, List.getElem?_cons_succ, beq_self_eq_true, selV]
  refine ifD_of (fun h1 => ?_) (fun h1 => ?_)
  · have hlt : i < more.length := by omega
    have hx : more[i]? = some more[i] := List.getElem?_eq_getElem hlt
    have hstep : moreF s (more.take (i + 1)) = if hasB t more[i].id then none else some (withB t more[i]) := by
      rw [List.take_succ_eq_append_getElem hlt, moreF_snoc, hm]; rfl
    refine (hw.g g).ptr rfl hx fun bb o cs _ hcs ⟨ww, hc, hww⟩ => ?_
    subst hc
    refine fld_at (load_at (cellsAt_sub (p := 0) (m := 1) hcs (by decide)) ?_)
    try simp only [sv_cons, sv_cons1, sc_cons, sc_cons1, asB_bool, ifB_true, ifB_false, un_not, bin_lss, bin_leq, bin_gtr, bin_geq, bin_eql, bin_neq, bin_add, bin_sub, bin_mul, ok_int, ok_bool, ok_slice, ok_str, ok_ptr, ok_map, ok_func, ok_iface, ok_nil, List.all_cons, List.all_nil, Bool.and_true, Bool.true_and, seg, setSeg, List.drop_succ_cons, List.drop_zero, List.take_succ_cons, List.take_zero, List.cons_append, List.nil_append, List.append_nil, List.length_cons, List.length_nil, List.drop_nil, List.size_toArray, Nat.reduceAdd, Nat.reduceLeDiff, Nat.reduceBEq, Nat.zero_add, Nat.le_refl, decide_true, mkV, List.headD_cons, cellsV, w_fldV, w_ext, w_fldP, List.getElem?_toArray, List.getElem?_cons_zero, List.getElem?_cons_succ, beq_self_eq_true, selV]
    refine c_ref16_At ht (by omega) fun k hk => ?_
    have hh := hk.has
    try simp only [sv_cons, sv_cons1, sc_cons, sc_cons1, asB_bool, ifB_true, ifB_false, un_not, bin_lss, bin_leq, bin_gtr, bin_geq, bin_eql, bin_neq, bin_add, bin_sub, bin_mul, ok_int, ok_bool, ok_slice, ok_str, ok_ptr, ok_map, ok_func, ok_iface, ok_nil, List.all_cons, List.all_nil, Bool.and_true, Bool.true_and, seg, setSeg, List.drop_succ_cons, List.drop_zero, List.take_succ_cons, List.take_zero, List.cons_append, List.nil_append, List.append_nil, List.length_cons, List.length_nil, List.drop_nil, List.size_toArray, Nat.reduceAdd, Nat.reduceLeDiff, Nat.reduceBEq, Nat.zero_add, Nat.le_refl, decide_true, mkV, List.headD_cons, cellsV, w_fldV, w_ext, w_fldP, List.getElem?_toArray, List.getElem?_cons_zero, List.getElem?_cons_succ, beq_self_eq_true, selV]
    refine ifD_of (fun h2 => ?_) (fun h2 => ?_)
    · have e : moreF s more = none := by
        rw [← List.take_append_drop (i + 1) more]
        exact moreF_none (by rw [hstep, if_pos (hh.1 h2)])
      have := hQ (.slice none 0 0) H' (by rw [e]; exact Sl.nil _ _ _ _ _) g
      rw [e] at this
      exact this
    · rw [if_neg (fun h => h2 (hh.2 h))] at hstep
      refine (hw.g g).get rfl hx fun cs ⟨w2, hc, hw2⟩ => ?_
      subst hc
      have hg := g.size
      obtain ⟨s1, s2, s3⟩ := more_step hut hft (hf2 _ (List.getElem_mem hlt))
      refine c_ref16_With ht hw2 (by omega) hft (hf2 _ (List.getElem_mem hlt)) hut fun u2 H2 hu2 g2 => ?_
      try simp only [sv_cons, sv_cons1, sc_cons, sc_cons1, asB_bool, ifB_true, ifB_false, un_not, bin_lss, bin_leq, bin_gtr, bin_geq, bin_eql, bin_neq, bin_add, bin_sub, bin_mul, ok_int, ok_bool, ok_slice, ok_str, ok_ptr, ok_map, ok_func, ok_iface, ok_nil, List.all_cons, List.all_nil, Bool.and_true, Bool.true_and, seg, setSeg, List.drop_succ_cons, List.drop_zero, List.take_succ_cons, List.take_zero, List.cons_append, List.nil_append, List.append_nil, List.length_cons, List.length_nil, List.drop_nil, List.size_toArray, Nat.reduceAdd, Nat.reduceLeDiff, Nat.reduceBEq, Nat.zero_add, Nat.le_refl, decide_true, mkV, List.headD_cons, cellsV, w_fldV, w_ext, w_fldP, List.getElem?_toArray, List.getElem?_cons_zero, List.getElem?_cons_succ, beq_self_eq_true, selV]
      rw [wrap_i64 (by unfold i64; omega)]
      exact hK _ _ hlt ⟨u2, _, hu2.mono fun y hy _ => by omega, g.trans g2, hstep, s1, s2, by omega, by simp⟩
  · rw [List.take_of_length_le (by omega)] at hm
    have := hQ u H' (by rw [hm]; exact ht) g
    rw [hm] at this
    exact this

theorem c_ref16_Add {l : Lvl} {v w : Value} {s more : List Blk} (hwd : i64 l.width) (hv : Sl rBlk H A v s) (hw : Sl rBlk H B w more) (hl : s.length ≤ 500) (hl2 : more.length ≤ 400)
    (hQ : ∀ u H', Sl rBlk H' (fun y => H.size ≤ y) u (addV l s more) → G H H' → Q (tup2 u (.int .i64 (addE l s more))) H') : callV Try.prog (fnV fn_ref16_Add) [.agg (cLvl l).toArray, v, w] H Q := by
  apply S_ref16_Add_of
  unfold S_ref16_Add
  have bad : ∀ H', G H H' → addE l s more ≠ 0 → Q (tup2 (.slice none 0 0) (.int .i64 8)) H' := fun H' g h => by
    have e1 : addE l s more = 8 := by
      unfold addE at h ⊢
      split
      · rename_i h1; rw [if_pos h1] at h; split
        · rename_i h2; rw [if_pos h2] at h; exact absurd rfl h
        · rfl
      · rfl
    have e2 : addV l s more = [] := by
      unfold addE at h
      unfold addV
      split
      · rename_i h1
        rw [if_pos h1] at h
        cases hx : addF l s more with
        | none => rfl
        | some t => rw [hx] at h; exact absurd rfl h
      · rfl
    have := hQ (.slice none 0 0) H' (by rw [e2]; exact Sl.nil _ _ _ _ _) g
    rw [e1] at this
    exact this
  refine newT_of fun H1 g1 s1 => c_ref16_Check hwd (hv.g g1) (by omega) fun H3 g3 => ?_
  have g := g1.trans g3
  try simp only [sv_cons, sv_cons1, sc_cons, sc_cons1, asB_bool, ifB_true, ifB_false, un_not, bin_lss, bin_leq, bin_gtr, bin_geq, bin_eql, bin_neq, bin_add, bin_sub, bin_mul, ok_int, ok_bool, ok_slice, ok_str, ok_ptr, ok_map, ok_func, ok_iface, ok_nil, List.all_cons, List.all_nil, Bool.and_true, Bool.true_and, seg, setSeg, List.drop_succ_cons, List.drop_zero, List.take_succ_cons, List.take_zero, List.cons_append, List.nil_append, List.append_nil, List.length_cons, List.length_nil, List.drop_nil, List.size_toArray, Nat.reduceAdd, Nat.reduceLeDiff, Nat.reduceBEq, Nat.zero_add, Nat.le_refl, decide_true, mkV, List.headD_cons, cellsV, w_fldV, w_ext, w_fldP, List.getElem?_toArray, List.getElem?_cons_zero, List.getElem?_cons_succ, beq_self_eq_true, selV]
  refine ifD_of (fun h => bad _ g (by unfold addE; rw [if_neg h]; omega)) (fun h => ?_)
  have h := Classical.not_not.1 h
  obtain ⟨hs0, hm⟩ := stE_0.1 h
  have hok := slotsL_pos hs0
  refine loop_up more.length (fun i st H' => G H H' ∧ st = [[.int .i64 (i : Int)]] ∧ ∀ b ∈ more.take i, blkMay l b = true) ⟨g, rfl, by simp⟩ ?_
  rintro i st H' K hi ⟨g, rfl, hmay⟩ hK
  refine hw.len ?_
  try simp only [sv_cons, sv_cons1, sc_cons, sc_cons1, asB_bool, ifB_true, ifB_false, un_not, bin_lss, bin_leq, bin_gtr, bin_geq, bin_eql, bin_neq, bin_add, bin_sub, bin_mul, ok_int, ok_bool, ok_slice, ok_str, ok_ptr, ok_map, ok_func, ok_iface, ok_nil, List.all_cons, List.all_nil, Bool.and_true, Bool.true_and, seg, setSeg, List.drop_succ_cons, List.drop_zero, List.take_succ_cons, List.take_zero, List.cons_append, List.nil_append, List.append_nil, List.length_cons, List.length_nil, List.drop_nil, List.size_toArray, Nat.reduceAdd, Nat.reduceLeDiff, Nat.reduceBEq, Nat.zero_add, Nat.le_refl, decide_true, mkV, List.headD_cons, cellsV, w_fldV, w_ext, w_fldP, List.getElem?_toArray, List.getElem?_cons_zero, List.getElem?_cons_succ, beq_self_eq_true, selV]
  refine ifD_of (fun h1 => ?_) (fun h1 => ?_)
  · have hlt : i < more.length := by omega
    have hx : more[i]? = some more[i] := List.getElem?_eq_getElem hlt
    refine (hw.g g).get rfl hx fun cs ⟨w2, hc, hw2⟩ => ?_
    subst hc
    refine c_ref09_May (by omega) hw2 fun H2 g2 => ?_
    cases hb : blkMay l more[i] with
    | false =>
      try simp only [sv_cons, sv_cons1, sc_cons, sc_cons1, asB_bool, ifB_true, ifB_false, un_not, bin_lss, bin_leq, bin_gtr, bin_geq, bin_eql, bin_neq, bin_add, bin_sub, bin_mul, ok_int, ok_bool, ok_slice, ok_str, ok_ptr, ok_map, ok_func, ok_iface, ok_nil, List.all_cons, List.all_nil, Bool.and_true, Bool.true_and, seg, setSeg, List.drop_succ_cons, List.drop_zero, List.take_succ_cons, List.take_zero, List.cons_append, List.nil_append, List.append_nil, List.length_cons, List.length_nil, List.drop_nil, List.size_toArray, Nat.reduceAdd, Nat.reduceLeDiff, Nat.reduceBEq, Nat.zero_add, Nat.le_refl, decide_true, mkV, List.headD_cons, cellsV, w_fldV, w_ext, w_fldP, List.getElem?_toArray, List.getElem?_cons_zero, List.getElem?_cons_succ, beq_self_eq_true, selV, Bool.not_false]
      refine bad _ (g.trans g2) ?_
      unfold addE
      rw [if_pos h, addF_none ⟨_, List.getElem_mem hlt, hb⟩]
      simp
    | true =>
      try simp only [sv_cons, sv_cons1, sc_cons, sc_cons1, asB_bool, ifB_true, ifB_false, un_not, bin_lss, bin_leq, bin_gtr, bin_geq, bin_eql, bin_neq, bin_add, bin_sub, bin_mul, ok_int, ok_bool, ok_slice, ok_str, ok_ptr, ok_map, ok_func, ok_iface, ok_nil, List.all_cons, List.all_nil, Bool.and_true, Bool.true_and, seg, setSeg, List.drop_succ_cons, List.drop_zero, List.take_succ_cons, List.take_zero, List.cons_append, List.nil_append, List.append_nil, List.length_cons, List.length_nil, List.drop_nil, List.size_toArray, Nat.reduceAdd, Nat.reduceLeDiff, Nat.reduceBEq, Nat.zero_add, Nat.le_refl, decide_true, mkV, List.headD_cons, cellsV, w_fldV, w_ext, w_fldP, List.getElem?_toArray, List.getElem?_cons_zero, List.getElem?_cons_succ, beq_self_eq_true, selV, Bool.not_true]
      rw [wrap_i64 (by unfold i64; omega)]
      refine hK _ _ hlt ⟨g.trans g2, by simp, fun b hbm => ?_⟩
      rw [List.take_succ_eq_append_getElem hlt, List.mem_append, List.mem_singleton] at hbm
      rcases hbm with hbm | rfl
      · exact hmay b hbm
      · exact hb
  · rw [List.take_of_length_le (by omega)] at hmay
    have hfit : ∀ x : Blk, blkMay l x = true → fits x := fun x hx => by have := may_fits hx hs0; unfold fits; omega
    refine c_ref16_More (hv.g g) (hw.g g) hl hl2 (fun x hx => hfit x (stMay_mem hm x hx)) (fun x hx => hfit x (hmay x hx)) (stMay_up hm) fun u H2 hu g2 => ?_
    have hg := g.size
    have e := addF_may (l := l) (s := s) hmay
    cases hr : moreF s more with
    | none =>
      rw [hr] at e
      try simp only [sv_cons, sv_cons1, sc_cons, sc_cons1, asB_bool, ifB_true, ifB_false, un_not, bin_lss, bin_leq, bin_gtr, bin_geq, bin_eql, bin_neq, bin_add, bin_sub, bin_mul, ok_int, ok_bool, ok_slice, ok_str, ok_ptr, ok_map, ok_func, ok_iface, ok_nil, List.all_cons, List.all_nil, Bool.and_true, Bool.true_and, seg, setSeg, List.drop_succ_cons, List.drop_zero, List.take_succ_cons, List.take_zero, List.cons_append, List.nil_append, List.append_nil, List.length_cons, List.length_nil, List.drop_nil, List.size_toArray, Nat.reduceAdd, Nat.reduceLeDiff, Nat.reduceBEq, Nat.zero_add, Nat.le_refl, decide_true, mkV, List.headD_cons, cellsV, w_fldV, w_ext, w_fldP, List.getElem?_toArray, List.getElem?_cons_zero, List.getElem?_cons_succ, beq_self_eq_true, selV, Option.isSome_none, Bool.not_false]
      exact bad _ (g.trans g2) (by unfold addE; rw [if_pos h, e]; simp)
    | some t =>
      rw [hr] at e hu
      try simp only [sv_cons, sv_cons1, sc_cons, sc_cons1, asB_bool, ifB_true, ifB_false, un_not, bin_lss, bin_leq, bin_gtr, bin_geq, bin_eql, bin_neq, bin_add, bin_sub, bin_mul, ok_int, ok_bool, ok_slice, ok_str, ok_ptr, ok_map, ok_func, ok_iface, ok_nil, List.all_cons, List.all_nil, Bool.and_true, Bool.true_and, seg, setSeg, List.drop_succ_cons, List.drop_zero, List.take_succ_cons, List.take_zero, List.cons_append, List.nil_append, List.append_nil, List.length_cons, List.length_nil, List.drop_nil, List.size_toArray, Nat.reduceAdd, Nat.reduceLeDiff, Nat.reduceBEq, Nat.zero_add, Nat.le_refl, decide_true, mkV, List.headD_cons, cellsV, w_fldV, w_ext, w_fldP, List.getElem?_toArray, List.getElem?_cons_zero, List.getElem?_cons_succ, beq_self_eq_true, selV, Option.isSome_some, Bool.not_true]
      have := hQ u H2 (by unfold addV; rw [if_pos h, e]; exact hu.mono fun y hy _ => by omega) (g.trans g2)
      unfold addE at this
      rw [if_pos h, e] at this
      exact this

end Go.Proofs.Ytccdoecccaocjaa
