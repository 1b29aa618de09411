/- Contracts: stashes, as the reference has them. -/
import Derived.Test.YtlmpjhbfgakgdaaDoorConSlot
namespace Go.Proofs.YtlmpjhbfgakgdaaDoor
open Go.Ab Go.Md
set_option linter.unusedVariables false
set_option linter.unusedSimpArgs false
set_option maxRecDepth 20000

variable {H : Heap} {Q : Value → Heap → Prop} {A B C : Nat → Prop}

/-- The place of a number; -1: there is none. -/
def AtR (s : List Blk) (n k : Int) : Prop := (k = -1 ∧ ∀ b ∈ s, b.id ≠ n) ∨ ∃ (i : Nat) (b : Blk), k = (i : Int) ∧ s[i]? = some b ∧ b.id = n
theorem AtR.has {s : List Blk} {n k : Int} (h : AtR s n k) : 0 ≤ k ↔ hasB s n = true := by
  rw [hasB_iff]
  rcases h with ⟨rfl, h⟩ | ⟨i, b, rfl, hb, he⟩
  · exact ⟨fun h => absurd h (by omega), fun ⟨b, hb, he⟩ => absurd he (h b hb)⟩
  · exact ⟨fun _ => ⟨b, List.mem_of_getElem? hb, he⟩, fun _ => by omega⟩

theorem up_snoc {s : List Blk} {i : Nat} (hlt : i < s.length) (h : Up (s.take i)) (hc : ∀ j, j + 1 = i → (s[j]?.map (·.id)).getD 0 < s[i].id) : Up (s.take (i + 1)) := by
  rw [List.take_succ_eq_append_getElem hlt]
  refine List.pairwise_append.2 ⟨h, List.pairwise_singleton _ _, fun x hx y hy => ?_⟩
  rw [List.mem_singleton] at hy
  subst hy
  obtain ⟨j, hj⟩ := List.mem_iff_getElem?.1 hx
  rw [List.getElem?_take] at hj
  split at hj
  · rename_i hji
    have h1 := hc (i - 1) (by omega)
    have hl1 : i - 1 < s.length := by omega
    rw [List.getElem?_eq_getElem hl1] at h1
    simp at h1
    rcases Nat.lt_or_ge j (i - 1) with h2 | h2
    · have := List.pairwise_iff_getElem.1 h j (i - 1) (by rw [List.length_take]; omega) (by rw [List.length_take]; omega) h2
      rw [List.getElem_take, List.getElem_take] at this
      have h3 := (List.getElem?_eq_some_iff.1 hj).2
      rw [h3] at this
      omega
    · have e : j = i - 1 := by omega
      subst e
      have h3 := (List.getElem?_eq_some_iff.1 hj).2
      rw [← h3]; exact h1
  · cases hj
theorem not_up {s : List Blk} {i : Nat} (h1 : i + 1 < s.length) (h : s[i + 1].id ≤ s[i].id) : ¬ Up s := fun hu => by
  have := List.pairwise_iff_getElem.1 hu i (i + 1) (by omega) h1 (by omega)
  omega

theorem c_ref16_May {l : Lvl} {v : Value} {s : List Blk} (hh : 0 ≤ l.high ∧ l.high ≤ 62) (hv : Sl rBlk H A v s) (hl : s.length ≤ 1000000) (hQ : ∀ H', G H H' → Q (.bool (stMay l s)) H') : callV Tryd.prog (fnV fn_ref16_May) [.agg (cLvl l).toArray, v] H Q := by
  apply S_ref16_May_of
  unfold S_ref16_May
  refine newT_of fun H1 g1 _ => ?_
  refine loop_up s.length (fun i st H' => G H H' ∧ st = [[.int .i64 (i : Int)]] ∧ (∀ b ∈ s.take i, blkMay l b = true) ∧ Up (s.take i)) ⟨g1, rfl, by simp, by simp⟩ ?_
  rintro i st H' K hi ⟨g, rfl, hm, hu⟩ hK
  refine hv.len ?_
  try simp only [sv_cons, sv_cons1, sc_cons, sc_cons1, asB_bool, ifB_true, ifB_false, un_not, bin_lss, bin_leq, bin_gtr, bin_geq, bin_eql, bin_neq, bin_add, bin_sub, bin_mul, ok_int, ok_bool, ok_slice, ok_str, ok_ptr, ok_map, ok_func, ok_iface, ok_nil, List.all_cons, List.all_nil, Bool.and_true, Bool.true_and, seg, setSeg, List.drop_succ_cons, List.drop_zero, List.take_succ_cons, List.take_zero, List.cons_append, List.nil_append, List.append_nil, List.length_cons, List.length_nil, List.drop_nil, List.size_toArray, Nat.reduceAdd, Nat.reduceLeDiff, Nat.reduceBEq, Nat.zero_add, Nat.le_refl, decide_true, mkV, List.headD_cons, cellsV, w_fldV, w_ext, w_fldP, List.getElem?_toArray, List.getElem?_cons_zero, List.getElem?_cons_succ, beq_self_eq_true, selV]
  refine ifD_of (fun h1 => ?_) (fun h1 => ?_)
  · have hlt : i < s.length := by omega
    have hx : s[i]? = some s[i] := List.getElem?_eq_getElem hlt
    refine join_of (fun st H2 => G H H2 ∧ ∃ c : Bool, st = [[.bool c]] ∧ (c = false ↔ (blkMay l s[i] = true ∧ ∀ j, j + 1 = i → (s[j]?.map (·.id)).getD 0 < s[i].id))) (fun K hK => ?_) ?_
    · refine (hv.g g).get rfl hx fun cs ⟨w, hc, hw⟩ => ?_
      subst hc
      refine c_ref09_May hh hw fun H2 g2 => ?_
      cases hb : blkMay l s[i] with
      | false =>
        try simp only [sv_cons, sv_cons1, sc_cons, sc_cons1, asB_bool, ifB_true, ifB_false, un_not, bin_lss, bin_leq, bin_gtr, bin_geq, bin_eql, bin_neq, bin_add, bin_sub, bin_mul, ok_int, ok_bool, ok_slice, ok_str, ok_ptr, ok_map, ok_func, ok_iface, ok_nil, List.all_cons, List.all_nil, Bool.and_true, Bool.true_and, seg, setSeg, List.drop_succ_cons, List.drop_zero, List.take_succ_cons, List.take_zero, List.cons_append, List.nil_append, List.append_nil, List.length_cons, List.length_nil, List.drop_nil, List.size_toArray, Nat.reduceAdd, Nat.reduceLeDiff, Nat.reduceBEq, Nat.zero_add, Nat.le_refl, decide_true, mkV, List.headD_cons, cellsV, w_fldV, w_ext, w_fldP, List.getElem?_toArray, List.getElem?_cons_zero, List.getElem?_cons_succ, beq_self_eq_true, selV, Bool.not_false, true_and]
        exact hK _ _ ⟨g.trans g2, true, rfl, by simp [hb]⟩
      | true =>
        try simp only [sv_cons, sv_cons1, sc_cons, sc_cons1, asB_bool, ifB_true, ifB_false, un_not, bin_lss, bin_leq, bin_gtr, bin_geq, bin_eql, bin_neq, bin_add, bin_sub, bin_mul, ok_int, ok_bool, ok_slice, ok_str, ok_ptr, ok_map, ok_func, ok_iface, ok_nil, List.all_cons, List.all_nil, Bool.and_true, Bool.true_and, seg, setSeg, List.drop_succ_cons, List.drop_zero, List.take_succ_cons, List.take_zero, List.cons_append, List.nil_append, List.append_nil, List.length_cons, List.length_nil, List.drop_nil, List.size_toArray, Nat.reduceAdd, Nat.reduceLeDiff, Nat.reduceBEq, Nat.zero_add, Nat.le_refl, decide_true, mkV, List.headD_cons, cellsV, w_fldV, w_ext, w_fldP, List.getElem?_toArray, List.getElem?_cons_zero, List.getElem?_cons_succ, beq_self_eq_true, selV, Bool.not_true]
        refine ifD_of (fun h2 => ?_) (fun h2 => hK _ _ ⟨g.trans g2, false, rfl, by simp [hb]; intro j hj; omega⟩)
        have hx1 : s[i - 1]? = some (s[i - 1]'(by omega)) := List.getElem?_eq_getElem _
        refine (hv.g (g.trans g2)).ptr rfl hx fun bb o cs _ hcs ⟨ww, hc, hww⟩ => ?_
        subst hc
        refine fld_at (load_at (cellsAt_sub (p := 0) (m := 1) hcs (by decide)) ?_)
        try simp only [sv_cons, sv_cons1, sc_cons, sc_cons1, asB_bool, ifB_true, ifB_false, un_not, bin_lss, bin_leq, bin_gtr, bin_geq, bin_eql, bin_neq, bin_add, bin_sub, bin_mul, ok_int, ok_bool, ok_slice, ok_str, ok_ptr, ok_map, ok_func, ok_iface, ok_nil, List.all_cons, List.all_nil, Bool.and_true, Bool.true_and, seg, setSeg, List.drop_succ_cons, List.drop_zero, List.take_succ_cons, List.take_zero, List.cons_append, List.nil_append, List.append_nil, List.length_cons, List.length_nil, List.drop_nil, List.size_toArray, Nat.reduceAdd, Nat.reduceLeDiff, Nat.reduceBEq, Nat.zero_add, Nat.le_refl, decide_true, mkV, List.headD_cons, cellsV, w_fldV, w_ext, w_fldP, List.getElem?_toArray, List.getElem?_cons_zero, List.getElem?_cons_succ, beq_self_eq_true, selV]
        rw [wrap_i64 (by unfold i64; omega), show (i : Int) - 1 = ((i - 1 : Nat) : Int) by omega]
        refine (hv.g (g.trans g2)).ptr rfl hx1 fun bb o cs _ hcs ⟨ww, hc, hww⟩ => ?_
        subst hc
        refine fld_at (load_at (cellsAt_sub (p := 0) (m := 1) hcs (by decide)) ?_)
        try simp only [sv_cons, sv_cons1, sc_cons, sc_cons1, asB_bool, ifB_true, ifB_false, un_not, bin_lss, bin_leq, bin_gtr, bin_geq, bin_eql, bin_neq, bin_add, bin_sub, bin_mul, ok_int, ok_bool, ok_slice, ok_str, ok_ptr, ok_map, ok_func, ok_iface, ok_nil, List.all_cons, List.all_nil, Bool.and_true, Bool.true_and, seg, setSeg, List.drop_succ_cons, List.drop_zero, List.take_succ_cons, List.take_zero, List.cons_append, List.nil_append, List.append_nil, List.length_cons, List.length_nil, List.drop_nil, List.size_toArray, Nat.reduceAdd, Nat.reduceLeDiff, Nat.reduceBEq, Nat.zero_add, Nat.le_refl, decide_true, mkV, List.headD_cons, cellsV, w_fldV, w_ext, w_fldP, List.getElem?_toArray, List.getElem?_cons_zero, List.getElem?_cons_succ, beq_self_eq_true, selV]
        refine hK _ _ ⟨g.trans g2, _, rfl, ?_⟩
        rw [decide_eq_false_iff_not]
        refine ⟨fun hgt => ⟨hb, fun j hj => ?_⟩, fun h hle => ?_⟩
        · have e : j = i - 1 := by omega
          subst e
          rw [hx1]
          simp
          omega
        · have := h.2 (i - 1) (by omega)
          rw [hx1] at this
          simp at this
          omega
    rintro st H2 ⟨g2, c, rfl, hcc⟩
    try simp only [sv_cons, sv_cons1, sc_cons, sc_cons1, asB_bool, ifB_true, ifB_false, un_not, bin_lss, bin_leq, bin_gtr, bin_geq, bin_eql, bin_neq, bin_add, bin_sub, bin_mul, ok_int, ok_bool, ok_slice, ok_str, ok_ptr, ok_map, ok_func, ok_iface, ok_nil, List.all_cons, List.all_nil, Bool.and_true, Bool.true_and, seg, setSeg, List.drop_succ_cons, List.drop_zero, List.take_succ_cons, List.take_zero, List.cons_append, List.nil_append, List.append_nil, List.length_cons, List.length_nil, List.drop_nil, List.size_toArray, Nat.reduceAdd, Nat.reduceLeDiff, Nat.reduceBEq, Nat.zero_add, Nat.le_refl, decide_true, mkV, List.headD_cons, cellsV, w_fldV, w_ext, w_fldP, List.getElem?_toArray, List.getElem?_cons_zero, List.getElem?_cons_succ, beq_self_eq_true, selV]
    refine ifB_of (fun h2 => ?_) (fun h2 => ?_)
    · have : stMay l s = false := by
        cases hs : stMay l s with
        | false => rfl
        | true =>
          exfalso
          obtain ⟨m1, m2⟩ := stMay_iff.1 hs
          refine absurd (hcc.2 ⟨m1 _ (List.getElem_mem hlt), fun j hj => ?_⟩) (by rw [h2]; simp)
          have hj' : j < s.length := by omega
          rw [List.getElem?_eq_getElem hj']
          exact List.pairwise_iff_getElem.1 m2 j i hj' hlt (by omega)
      have hq := hQ H2 g2
      rw [this] at hq
      exact hq
    · obtain ⟨h3, h4⟩ := hcc.1 h2
      rw [wrap_i64 (by unfold i64; omega)]
      refine hK _ _ hlt ⟨g2, by simp, fun b hb => ?_, up_snoc hlt hu h4⟩
      rw [List.take_succ_eq_append_getElem hlt, List.mem_append, List.mem_singleton] at hb
      rcases hb with hb | rfl
      · exact hm b hb
      · exact h3
  · rw [List.take_of_length_le (by omega)] at hm hu
    have hq := hQ H' g
    rw [stMay_iff.2 ⟨hm, hu⟩] at hq
    exact hq

theorem withF_nil {d : Bool} {b : Blk} : withF d [] b = if d then [] else [b] := rfl
theorem withF_cons {d : Bool} {x b : Blk} {s : List Blk} : withF d (x :: s) b = (if !d && decide (b.id ≤ x.id) then [b] else []) ++ (if x.id ≠ b.id then [x] else []) ++ withF (d || decide (b.id ≤ x.id)) s b := rfl

/-- A stash that may be is small. -/
theorem may_fits {l : Lvl} {b : Blk} (h : blkMay l b = true) (hs : 1 ≤ slotsL l) : b.data.length ≤ 32 := by
  have := slotsL_pos hs
  unfold blkMay at h
  simp at h
  omega

theorem more_step {s : List Blk} {b : Blk} (hu : Up s) (hf : ∀ x ∈ s, fits x) (hfb : fits b) : Up (withB s b) ∧ (∀ x ∈ withB s b, fits x) ∧ (withB s b).length ≤ s.length + 1 :=
  ⟨withB_up hu b, fun x hx => by rcases mem_withB hx with rfl | hx; exact hfb; exact hf x hx, withB_len hu⟩

theorem moreF_snoc : ∀ {more s : List Blk} {b : Blk}, moreF s (more ++ [b]) = (moreF s more).bind fun t => if hasB t b.id then none else some (withB t b)
  | [], s, b => rfl
  | x :: more, s, b => by
    simp only [List.cons_append, moreF]
    split
    · rfl
    · exact moreF_snoc
theorem moreF_none {more more' s : List Blk} (h : moreF s more = none) : moreF s (more ++ more') = none := by
  induction more generalizing s with
  | nil => cases h
  | cons x more ih =>
    simp only [List.cons_append, moreF] at h ⊢
    split
    · rfl
    · rename_i hx; rw [if_neg hx] at h; exact ih h

end Go.Proofs.YtlmpjhbfgakgdaaDoor
