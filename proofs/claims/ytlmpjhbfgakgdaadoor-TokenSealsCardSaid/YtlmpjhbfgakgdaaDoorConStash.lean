/- Contracts: stashes of the program. -/
import Derived.Test.YtlmpjhbfgakgdaaDoorConRef16
namespace Go.Proofs.YtlmpjhbfgakgdaaDoor
open Go.Ab Go.Md
set_option linter.unusedVariables false
set_option linter.unusedSimpArgs false
set_option maxRecDepth 20000

variable {H : Heap} {Q : Value → Heap → Prop} {A B C : Nat → Prop}

theorem c_stash_Check {l : Lvl} {v : Value} {s : List Blk} (hw : i64 l.width) (hv : Sl rBlk H A v s) (hl : s.length ≤ 1000000) (hQ : ∀ H', G H H' → Q (.int .i64 (stE l s)) H') : callV Tryd.prog (fnV fn_stash_Check) [.agg (cLvl l).toArray, v] H Q := by
  apply S_stash_Check_of
  unfold S_stash_Check
  refine newT_of fun H1 g1 _ => c_slot_Slots hw fun H2 g2 => ?_
  have g := g1.trans g2
  try simp only [sv_cons, sv_cons1, sc_cons, sc_cons1, asB_bool, ifB_true, ifB_false, un_not, bin_lss, bin_leq, bin_gtr, bin_geq, bin_eql, bin_neq, bin_add, bin_sub, bin_mul, ok_int, ok_bool, ok_slice, ok_str, ok_ptr, ok_map, ok_func, ok_iface, ok_nil, List.all_cons, List.all_nil, Bool.and_true, Bool.true_and, seg, setSeg, List.drop_succ_cons, List.drop_zero, List.take_succ_cons, List.take_zero, List.cons_append, List.nil_append, List.append_nil, List.length_cons, List.length_nil, List.drop_nil, List.size_toArray, Nat.reduceAdd, Nat.reduceLeDiff, Nat.reduceBEq, Nat.zero_add, Nat.le_refl, decide_true, mkV, List.headD_cons, cellsV, w_fldV, w_ext, w_fldP, List.getElem?_toArray, List.getElem?_cons_zero, List.getElem?_cons_succ, beq_self_eq_true, selV]
  by_cases hs : slotsL l < 1
  · have := hQ H2 g
    unfold stE at this
    rw [if_pos hs] at this ⊢
    exact this
  rw [if_neg hs, show decide ((0 : Int) ≠ 0) = false from rfl]
  try simp only [sv_cons, sv_cons1, sc_cons, sc_cons1, asB_bool, ifB_true, ifB_false, un_not, bin_lss, bin_leq, bin_gtr, bin_geq, bin_eql, bin_neq, bin_add, bin_sub, bin_mul, ok_int, ok_bool, ok_slice, ok_str, ok_ptr, ok_map, ok_func, ok_iface, ok_nil, List.all_cons, List.all_nil, Bool.and_true, Bool.true_and, seg, setSeg, List.drop_succ_cons, List.drop_zero, List.take_succ_cons, List.take_zero, List.cons_append, List.nil_append, List.append_nil, List.length_cons, List.length_nil, List.drop_nil, List.size_toArray, Nat.reduceAdd, Nat.reduceLeDiff, Nat.reduceBEq, Nat.zero_add, Nat.le_refl, decide_true, mkV, List.headD_cons, cellsV, w_fldV, w_ext, w_fldP, List.getElem?_toArray, List.getElem?_cons_zero, List.getElem?_cons_succ, beq_self_eq_true, selV]
  refine hv.len ?_
  have bad : ∀ H', G H H' → stMay l s = false → Q (.int .i64 8) H' := fun H' g h => by
    have := hQ H' g
    unfold stE at this
    rw [if_neg hs, h] at this
    exact this
  refine loop_up s.length (fun i st H' => G H H' ∧ (∃ last : Int, -1 ≤ last ∧ (∀ j, j + 1 = i → (s[j]?.map (·.id)) = some last) ∧ (i = 0 → last = -1) ∧ st = [[.int .i64 last], [.int .i64 (i : Int)]]) ∧ (∀ b ∈ s.take i, blkMay l b = true) ∧ Up (s.take i)) ⟨g, ⟨-1, by omega, fun j hj => by omega, fun _ => rfl, rfl⟩, by simp, by simp⟩ ?_
  rintro i st H' K hi ⟨g, ⟨last, k1, k2, k3, rfl⟩, hm, hu⟩ hK
  try simp only [sv_cons, sv_cons1, sc_cons, sc_cons1, asB_bool, ifB_true, ifB_false, un_not, bin_lss, bin_leq, bin_gtr, bin_geq, bin_eql, bin_neq, bin_add, bin_sub, bin_mul, ok_int, ok_bool, ok_slice, ok_str, ok_ptr, ok_map, ok_func, ok_iface, ok_nil, List.all_cons, List.all_nil, Bool.and_true, Bool.true_and, seg, setSeg, List.drop_succ_cons, List.drop_zero, List.take_succ_cons, List.take_zero, List.cons_append, List.nil_append, List.append_nil, List.length_cons, List.length_nil, List.drop_nil, List.size_toArray, Nat.reduceAdd, Nat.reduceLeDiff, Nat.reduceBEq, Nat.zero_add, Nat.le_refl, decide_true, mkV, List.headD_cons, cellsV, w_fldV, w_ext, w_fldP, List.getElem?_toArray, List.getElem?_cons_zero, List.getElem?_cons_succ, beq_self_eq_true, selV]
  refine ifD_of (fun h1 => ?_) (fun h1 => ?_)
  · have hlt : i < s.length := by omega
    have hx : s[i]? = some s[i] := List.getElem?_eq_getElem hlt
    refine (hv.g g).get rfl hx fun cs ⟨w, hc, hw2⟩ => newT_of fun H3 g3 _ => ?_
    subst hc
    have g := g.trans g3
    have hok := hw2.okcv
    try simp only [sv_cons, sv_cons1, sc_cons, sc_cons1, asB_bool, ifB_true, ifB_false, un_not, bin_lss, bin_leq, bin_gtr, bin_geq, bin_eql, bin_neq, bin_add, bin_sub, bin_mul, ok_int, ok_bool, ok_slice, ok_str, ok_ptr, ok_map, ok_func, ok_iface, ok_nil, List.all_cons, List.all_nil, Bool.and_true, Bool.true_and, seg, setSeg, List.drop_succ_cons, List.drop_zero, List.take_succ_cons, List.take_zero, List.cons_append, List.nil_append, List.append_nil, List.length_cons, List.length_nil, List.drop_nil, List.size_toArray, Nat.reduceAdd, Nat.reduceLeDiff, Nat.reduceBEq, Nat.zero_add, Nat.le_refl, decide_true, mkV, List.headD_cons, cellsV, w_fldV, w_ext, w_fldP, List.getElem?_toArray, List.getElem?_cons_zero, List.getElem?_cons_succ, beq_self_eq_true, selV, hok]
    refine join_of (fun st H4 => G H H4 ∧ ∃ c : Bool, st = [[.bool c]] ∧ (c = false ↔ (last < s[i].id ∧ blkMay l s[i] = true))) (fun K hK => ?_) ?_
    · refine ifD_of (fun h2 => hK _ _ ⟨g, true, rfl, by simp; omega⟩) (fun h2 => ?_)
      refine c_slot_Check hw (hw2.g g3) fun H4 g4 => ?_
      try simp only [sv_cons, sv_cons1, sc_cons, sc_cons1, asB_bool, ifB_true, ifB_false, un_not, bin_lss, bin_leq, bin_gtr, bin_geq, bin_eql, bin_neq, bin_add, bin_sub, bin_mul, ok_int, ok_bool, ok_slice, ok_str, ok_ptr, ok_map, ok_func, ok_iface, ok_nil, List.all_cons, List.all_nil, Bool.and_true, Bool.true_and, seg, setSeg, List.drop_succ_cons, List.drop_zero, List.take_succ_cons, List.take_zero, List.cons_append, List.nil_append, List.append_nil, List.length_cons, List.length_nil, List.drop_nil, List.size_toArray, Nat.reduceAdd, Nat.reduceLeDiff, Nat.reduceBEq, Nat.zero_add, Nat.le_refl, decide_true, mkV, List.headD_cons, cellsV, w_fldV, w_ext, w_fldP, List.getElem?_toArray, List.getElem?_cons_zero, List.getElem?_cons_succ, beq_self_eq_true, selV]
      refine hK _ _ ⟨g.trans g4, _, rfl, ?_⟩
      unfold blkE
      rw [if_neg hs]
      cases hb : blkMay l s[i] with
      | true => simp; omega
      | false => simp
    rintro st H4 ⟨g4, c, rfl, hc⟩
    try simp only [sv_cons, sv_cons1, sc_cons, sc_cons1, asB_bool, ifB_true, ifB_false, un_not, bin_lss, bin_leq, bin_gtr, bin_geq, bin_eql, bin_neq, bin_add, bin_sub, bin_mul, ok_int, ok_bool, ok_slice, ok_str, ok_ptr, ok_map, ok_func, ok_iface, ok_nil, List.all_cons, List.all_nil, Bool.and_true, Bool.true_and, seg, setSeg, List.drop_succ_cons, List.drop_zero, List.take_succ_cons, List.take_zero, List.cons_append, List.nil_append, List.append_nil, List.length_cons, List.length_nil, List.drop_nil, List.size_toArray, Nat.reduceAdd, Nat.reduceLeDiff, Nat.reduceBEq, Nat.zero_add, Nat.le_refl, decide_true, mkV, List.headD_cons, cellsV, w_fldV, w_ext, w_fldP, List.getElem?_toArray, List.getElem?_cons_zero, List.getElem?_cons_succ, beq_self_eq_true, selV]
    refine ifB_of (fun h2 => bad _ g4 ?_) (fun h2 => ?_)
    · cases hs : stMay l s with
      | false => rfl
      | true =>
        exfalso
        obtain ⟨m1, m2⟩ := stMay_iff.1 hs
        have hb := m1 _ (List.getElem_mem hlt)
        refine absurd (hc.2 ⟨?_, hb⟩) (by rw [h2]; simp)
        rcases Nat.eq_zero_or_pos i with e | e
        · rw [k3 e]
          unfold blkMay at hb
          simp at hb
          omega
        · have hj' : i - 1 < s.length := by omega
          have := k2 (i - 1) (by omega)
          rw [List.getElem?_eq_getElem hj'] at this
          simp at this
          have h4 := List.pairwise_iff_getElem.1 m2 (i - 1) i hj' hlt (by omega)
          omega
    · obtain ⟨h3, h4⟩ := hc.1 h2
      rw [wrap_i64 (by unfold i64; omega)]
      refine hK _ _ hlt ⟨g4, ⟨s[i].id, by omega, fun j hj => ?_, fun h => by omega, by simp⟩, fun b hb => ?_, up_snoc hlt hu fun j hj => ?_⟩
      · have : j = i := by omega
        subst this
        rw [hx]; rfl
      · rw [List.take_succ_eq_append_getElem hlt, List.mem_append, List.mem_singleton] at hb
        rcases hb with hb | rfl
        · exact hm b hb
        · exact h4
      · rw [k2 j hj]; exact h3
  · rw [List.take_of_length_le (by omega)] at hm hu
    have := hQ H' g
    unfold stE at this
    rw [if_neg hs, stMay_iff.2 ⟨hm, hu⟩] at this
    exact this

end Go.Proofs.YtlmpjhbfgakgdaaDoor
