/- Contracts: stashes of the program. -/
import Derived.Test.YtccdoecccaocjaaConRef16
namespace Go.Proofs.Ytccdoecccaocjaa
open Go.Ab Go.Md
set_option linter.unusedVariables false
set_option linter.unusedSimpArgs false
set_option maxRecDepth 20000

variable {H : Heap} {Q : Value → Heap → Prop} {A B C : Nat → Prop}

theorem c_stash_ids_1 {b : Blk} {w : Value} (hQ : ∀ H', G H H' → H'.size = H.size + 1 → Q (.int .i64 b.id) H') : callV Try.prog (fnV fn_stash_ids_1) [vBlk b w] H Q := by
  apply S_stash_ids_1_of
  unfold S_stash_ids_1
  exact newT_of fun H1 g1 s1 => hQ H1 g1 s1

theorem c_stash_find {v : Value} {s : List Blk} {n : Int} (hv : Sl rBlk H A v s) (hu : Up s) (hl : s.length ≤ 1000000) (hQ : ∀ H', G H H' → Q (tup2 (.int .i64 (placeB s n : Nat)) (.bool (hasB s n))) H') :
    callV Try.prog (fnV fn_stash_order_api_Block_find) [.agg #[v, fnV fn_stash_ids_1], .int .i64 n] H Q := by
  apply S_stash_order_api_Block_find_of
  unfold S_stash_order_api_Block_find
  refine newT_of fun H1 g1 _ => hv.len ?_
  have hp := place_le (s := s) (n := n)
  refine loop_up s.length (fun i st H' => G H H' ∧ ∃ lo hi : Nat, lo ≤ placeB s n ∧ placeB s n ≤ hi ∧ hi ≤ s.length ∧ hi - lo + i ≤ s.length ∧ st = [[.int .i64 (lo : Int)], [.int .i64 (hi : Int)]]) ⟨g1, 0, s.length, by omega, hp, by omega, by omega, rfl⟩ ?_
  rintro i st H' K hi ⟨g, lo, h, h1, h2, h3, h4, rfl⟩ hK
  try simp only [sv_cons, sv_cons1, sc_cons, sc_cons1, asB_bool, ifB_true, ifB_false, un_not, bin_lss, bin_leq, bin_gtr, bin_geq, bin_eql, bin_neq, bin_add, bin_sub, bin_mul, ok_int, ok_bool, ok_slice, ok_str, ok_ptr, ok_map, ok_func, ok_iface, ok_nil, List.all_cons, List.all_nil, Bool.and_true, Bool.true_and, seg, setSeg, List.drop_succ_cons, List.drop_zero, List.take_succ_cons, List.take_zero, List.cons_append, List.nil_append, List.append_nil, List.length_cons, List.length_nil, List.drop_nil, List.size_toArray, Nat.reduceAdd, Nat.reduceLeDiff, Nat.reduceBEq, Nat.zero_add, Nat.le_refl, decide_true, mkV, List.headD_cons, cellsV, w_fldV, w_ext, w_fldP, List.getElem?_toArray, List.getElem?_cons_zero, List.getElem?_cons_succ, beq_self_eq_true, selV]
  refine ifD_of (fun hlt => ?_) (fun hge => ?_)
  · have hlt : lo < h := by omega
    rw [wrap_i64 (x := (lo : Int) + (h : Int)) (by unfold i64; omega)]
    refine w_quo (by omega) ?_
    have em : ((lo : Int) + (h : Int)).tdiv 2 = (((lo + h) / 2 : Nat) : Int) := by
      rw [Int.tdiv_eq_ediv_of_nonneg (by omega)]; omega
    rw [em, wrap_i64 (by unfold i64; omega)]
    have hm : (lo + h) / 2 < s.length := by omega
    have hx := List.getElem?_eq_getElem hm
    refine (hv.g g).get rfl hx fun cs ⟨w, hc, hw⟩ => ?_
    subst hc
    refine c_stash_ids_1 fun H2 g2 _ => ?_
    try simp only [sv_cons, sv_cons1, sc_cons, sc_cons1, asB_bool, ifB_true, ifB_false, un_not, bin_lss, bin_leq, bin_gtr, bin_geq, bin_eql, bin_neq, bin_add, bin_sub, bin_mul, ok_int, ok_bool, ok_slice, ok_str, ok_ptr, ok_map, ok_func, ok_iface, ok_nil, List.all_cons, List.all_nil, Bool.and_true, Bool.true_and, seg, setSeg, List.drop_succ_cons, List.drop_zero, List.take_succ_cons, List.take_zero, List.cons_append, List.nil_append, List.append_nil, List.length_cons, List.length_nil, List.drop_nil, List.size_toArray, Nat.reduceAdd, Nat.reduceLeDiff, Nat.reduceBEq, Nat.zero_add, Nat.le_refl, decide_true, mkV, List.headD_cons, cellsV, w_fldV, w_ext, w_fldP, List.getElem?_toArray, List.getElem?_cons_zero, List.getElem?_cons_succ, beq_self_eq_true, selV]
    have hpl := place_lt hu hx (n := n)
    refine join_of (fun st H3 => H3 = H2 ∧ ∃ lo' hi' : Nat, lo' ≤ placeB s n ∧ placeB s n ≤ hi' ∧ hi' ≤ s.length ∧ hi' - lo' + (i + 1) ≤ s.length ∧ st = [[.int .i64 (lo' : Int)], [.int .i64 (hi' : Int)]]) (fun K hK => ?_) ?_
    · refine ifD_of (fun hc => ?_) (fun hc => ?_)
      · have := hpl.2 hc
        rw [wrap_i64 (by unfold i64; omega)]
        exact hK _ _ ⟨rfl, (lo + h) / 2 + 1, h, by omega, h2, h3, by omega, by simp⟩
      · have : ¬ (lo + h) / 2 < placeB s n := fun hh => hc (hpl.1 hh)
        exact hK _ _ ⟨rfl, lo, (lo + h) / 2, h1, by omega, by omega, by omega, rfl⟩
    rintro st H3 ⟨rfl, lo', hi', k1, k2, k3, k4, rfl⟩
    exact hK _ _ (by omega) ⟨g.trans g2, lo', hi', k1, k2, k3, k4, rfl⟩
  · have e : lo = placeB s n := by omega
    subst e
    refine join_of (fun st H2 => G H H2 ∧ st = [[.int .i64 (placeB s n : Nat)], [.bool (hasB s n)]]) (fun K hK => hv.len ?_) ?_
    · try simp only [sv_cons, sv_cons1, sc_cons, sc_cons1, asB_bool, ifB_true, ifB_false, un_not, bin_lss, bin_leq, bin_gtr, bin_geq, bin_eql, bin_neq, bin_add, bin_sub, bin_mul, ok_int, ok_bool, ok_slice, ok_str, ok_ptr, ok_map, ok_func, ok_iface, ok_nil, List.all_cons, List.all_nil, Bool.and_true, Bool.true_and, seg, setSeg, List.drop_succ_cons, List.drop_zero, List.take_succ_cons, List.take_zero, List.cons_append, List.nil_append, List.append_nil, List.length_cons, List.length_nil, List.drop_nil, List.size_toArray, Nat.reduceAdd, Nat.reduceLeDiff, Nat.reduceBEq, Nat.zero_add, Nat.le_refl, decide_true, mkV, List.headD_cons, cellsV, w_fldV, w_ext, w_fldP, List.getElem?_toArray, List.getElem?_cons_zero, List.getElem?_cons_succ, beq_self_eq_true, selV]
      refine ifD_of (fun hc => ?_) (fun hc => ?_)
      · have hm : placeB s n < s.length := by omega
        have hx := List.getElem?_eq_getElem hm
        refine (hv.g g).get rfl hx fun cs ⟨w, hc, hw⟩ => ?_
        subst hc
        refine c_stash_ids_1 fun H2 g2 _ => ⟨hv.len rfl, ?_⟩
        try simp only [sv_cons, sv_cons1, sc_cons, sc_cons1, asB_bool, ifB_true, ifB_false, un_not, bin_lss, bin_leq, bin_gtr, bin_geq, bin_eql, bin_neq, bin_add, bin_sub, bin_mul, ok_int, ok_bool, ok_slice, ok_str, ok_ptr, ok_map, ok_func, ok_iface, ok_nil, List.all_cons, List.all_nil, Bool.and_true, Bool.true_and, seg, setSeg, List.drop_succ_cons, List.drop_zero, List.take_succ_cons, List.take_zero, List.cons_append, List.nil_append, List.append_nil, List.length_cons, List.length_nil, List.drop_nil, List.size_toArray, Nat.reduceAdd, Nat.reduceLeDiff, Nat.reduceBEq, Nat.zero_add, Nat.le_refl, decide_true, mkV, List.headD_cons, cellsV, w_fldV, w_ext, w_fldP, List.getElem?_toArray, List.getElem?_cons_zero, List.getElem?_cons_succ, beq_self_eq_true, selV]
        refine hK _ _ ⟨g.trans g2, ?_⟩
        have : hasB s n = decide (s[placeB s n].id = n) := by
          rw [Bool.eq_iff_iff, hasB_place hu, hx, decide_eq_true_eq]
          simp
        rw [this]
      · refine ⟨hv.len rfl, hK _ _ ⟨g, ?_⟩⟩
        have : hasB s n = false := by
          cases hh : hasB s n with
          | false => rfl
          | true =>
            obtain ⟨b, hb, _⟩ := (hasB_place hu).1 hh
            have := (List.getElem?_eq_some_iff.1 hb).1
            omega
        rw [this]
    rintro st H2 ⟨g, rfl⟩
    exact hQ H2 g

theorem c_stash_ids {v : Value} (hv : okc v = true) (hQ : ∀ H', G H H' → H'.size = H.size + 1 → Q (.agg #[v, fnV fn_stash_ids_1]) H') : callV Try.prog (fnV fn_stash_ids) [v] H Q := by
  apply S_stash_ids_of
  unfold S_stash_ids
  refine newT_of fun H1 g1 s1 => ?_
  rw [hv, ifB_true, show [v, fnV fn_stash_ids_1].all okc = true by simp only [List.all_cons, hv]; rfl, ifB_true]
  exact hQ H1 g1 s1

theorem c_stash_Check {l : Lvl} {v : Value} {s : List Blk} (hw : i64 l.width) (hv : Sl rBlk H A v s) (hl : s.length ≤ 1000000) (hQ : ∀ H', G H H' → Q (.int .i64 (stE l s)) H') : callV Try.prog (fnV fn_stash_Check) [.agg (cLvl l).toArray, v] H Q := by
  apply S_stash_Check_of
  unfold S_stash_Check
  refine newT_of fun H1 g1 _ => c_slot_Slots hw fun H2 g2 => ?_
  have g := g1.trans g2
  try simp only [sv_cons, sv_cons1, sc_cons, sc_cons1, asB_bool, ifB_true, ifB_false, un_not, bin_lss, bin_leq, bin_gtr, bin_geq, bin_eql, bin_neq, bin_add, bin_sub, bin_mul, ok_int, ok_bool, ok_slice, ok_str, ok_ptr, ok_map, ok_func, ok_iface, ok_nil, List.all_cons, List.all_nil, Bool.and_true, Bool.true_and, seg, setSeg, List.drop_succ_cons, List.drop_zero, List.take_succ_cons, List.take_zero, List.cons_append, List.nil_append, List.append_nil, List.length_cons, List.length_nil, List.drop_nil, List.size_toArray, Nat.reduceAdd, Nat.reduceLeDiff, Nat.reduceBEq, Nat.zero_add, Nat.le_refl, decide_true, mkV, List.headD_cons, cellsV, w_fldV, w_ext, w_fldP, List.getElem?_toArray, List.getElem?_cons_zero, List.getElem?_cons_succ, beq_self_eq_true, selV]
  by_cases hs : slotsL l < 1
  · have := hQ H2 g
    unfold stE at this
    rw [if_pos hs] at this ⊢
    exact this
  rw [if_neg hs, show decide ((0 : Int) ≠ 0) = false from rfl]
  try simp only [sv_cons, sv_cons1, sc_cons, sc_cons1, asB_bool, ifB_true, ifB_false, un_not, bin_lss, bin_leq, bin_gtr, bin_geq, bin_eql, bin_neq, bin_add, bin_sub, bin_mul, ok_int, ok_bool, ok_slice, ok_str, ok_ptr, ok_map, ok_func, ok_iface, ok_nil, List.all_cons, List.all_nil, Bool.and_true, Bool.true_and, seg, setSeg, List.drop_succ_cons, List.drop_zero, List.take_succ_cons, List.take_zero, List.cons_append, List.nil_append, List.append_nil, List.length_cons, List.length_nil, List.drop_nil, List.size_toArray, Nat.reduceAdd, Nat.reduceLeDiff, Nat.reduceBEq, Nat.zero_add, Nat.le_refl, decide_true, mkV, List.headD_cons, cellsV, w_fldV, w_ext, w_fldP, List.getElem?_toArray, List.getElem?_cons_zero, List.getElem?_cons_succ, beq_self_eq_true, selV]
  refine hv.len ?_
  have bad : ∀ H', G H H' → stMay l s = false → Q (.int .i64 8) H' := fun H' g h => by
    have := hQ H' g
    unfold stE at this
    rw [if_neg hs, h] at this
    exact this
  refine loop_up s.length (fun i st H' => G H H' ∧ (∃ last : Int, -1 ≤ last ∧ (∀ j, j + 1 = i → (s[j]?.map (·.id)) = some last) ∧ (i = 0 → last = -1) ∧ st = [[.int .i64 last], [.int .i64 (i : Int)]]) ∧ (∀ b ∈ s.take i, blkMay l b = true) ∧ Up (s.take i)) ⟨g, ⟨-1, by omega, fun j hj => by omega, fun _ => rfl, rfl⟩, by simp, by simp⟩ ?_
  rintro i st H' K hi ⟨g, ⟨last, k1, k2, k3, rfl⟩, hm, hu⟩ hK
  try simp only [sv_cons, sv_cons1, sc_cons, sc_cons1, asB_bool, ifB_true, ifB_false, un_not, bin_lss, bin_leq, bin_gtr, bin_geq, bin_eql, bin_neq, bin_add, bin_sub, bin_mul, ok_int, ok_bool, ok_slice, ok_str, ok_ptr, ok_map, ok_func, ok_iface, ok_nil, List.all_cons, List.all_nil, Bool.and_true, Bool.true_and, seg, setSeg, List.drop_succ_cons, List.drop_zero, List.take_succ_cons, List.take_zero, List.cons_append, List.nil_append, List.append_nil, List.length_cons, List.length_nil, List.drop_nil, List.size_toArray, Nat.reduceAdd, Nat.reduceLeDiff, Nat.reduceBEq, Nat.zero_add, Nat.le_refl, decide_true, mkV, List.headD_cons, cellsV, w_fldV, w_ext, w_fldP, List.getElem?_toArray, List.getElem?_cons_zero, List.getElem?_cons_succ, beq_self_eq_true, selV]
  refine ifD_of (fun h1 => ?_) (fun h1 => ?_)
  · have hlt : i < s.length := by omega
    have hx : s[i]? = some s[i] := List.getElem?_eq_getElem hlt
    refine (hv.g g).get rfl hx fun cs ⟨w, hc, hw2⟩ => newT_of fun H3 g3 _ => ?_
    subst hc
    have g := g.trans g3
    have hok := hw2.okcv
    try simp only [sv_cons, sv_cons1, sc_cons, sc_cons1, asB_bool, ifB_true, ifB_false, un_not, bin_lss, bin_leq, bin_gtr, bin_geq, bin_eql, bin_neq, bin_add, bin_sub, bin_mul, ok_int, ok_bool, ok_slice, ok_str, ok_ptr, ok_map, ok_func, ok_iface, ok_nil, List.all_cons, List.all_nil, Bool.and_true, Bool.true_and, seg, setSeg, List.drop_succ_cons, List.drop_zero, List.take_succ_cons, List.take_zero, List.cons_append, List.nil_append, List.append_nil, List.length_cons, List.length_nil, List.drop_nil, List.size_toArray, Nat.reduceAdd, Nat.reduceLeDiff, Nat.reduceBEq, Nat.zero_add, Nat.le_refl, decide_true, mkV, List.headD_cons, cellsV, w_fldV, w_ext, w_fldP, List.getElem?_toArray, List.getElem?_cons_zero, List.getElem?_cons_succ, beq_self_eq_true, selV, hok]
    refine join_of (fun st H4 => G H H4 ∧ ∃ c : Bool, st = [[.bool c]] ∧ (c = false ↔ (last < s[i].id ∧ blkMay l s[i] = true))) (fun K hK => ?_) ?_
    · refine ifD_of (fun h2 => hK _ _ ⟨g, true, rfl, by simp; omega⟩) (fun h2 => ?_)
      refine c_slot_Check hw (hw2.g g3) fun H4 g4 => ?_
      try simp only [sv_cons, sv_cons1, sc_cons, sc_cons1, asB_bool, ifB_true, ifB_false, un_not, bin_lss, bin_leq, bin_gtr, bin_geq, bin_eql, bin_neq, bin_add, bin_sub, bin_mul, ok_int, ok_bool, ok_slice, ok_str, ok_ptr, ok_map, ok_func, ok_iface, ok_nil, List.all_cons, List.all_nil, Bool.and_true, Bool.true_and, seg, setSeg, List.drop_succ_cons, List.drop_zero, List.take_succ_cons, List.take_zero, List.cons_append, List.nil_append, List.append_nil, List.length_cons, List.length_nil, List.drop_nil, List.size_toArray, Nat.reduceAdd, Nat.reduceLeDiff, Nat.reduceBEq, Nat.zero_add, Nat.le_refl, decide_true, mkV, List.headD_cons, cellsV, w_fldV, w_ext, w_fldP, List.getElem?_toArray, List.getElem?_cons_zero, List.getElem?_cons_succ, beq_self_eq_true, selV]
      refine hK _ _ ⟨g.trans g4, _, rfl, ?_⟩
      unfold blkE
      rw [if_neg hs]
      cases hb : blkMay l s[i] with
      | true => simp; omega
      | false => simp
    rintro st H4 ⟨g4, c, rfl, hc⟩
    try simp only [sv_cons, sv_cons1, sc_cons, sc_cons1, asB_bool, ifB_true, ifB_false, un_not, bin_lss, bin_leq, bin_gtr, bin_geq, bin_eql, bin_neq, bin_add, bin_sub, bin_mul, ok_int, ok_bool, ok_slice, ok_str, ok_ptr, ok_map, ok_func, ok_iface, ok_nil, List.all_cons, List.all_nil, Bool.and_true, Bool.true_and, seg, setSeg, List.drop_succ_cons, List.drop_zero, List.take_succ_cons, List.take_zero, List.cons_append, List.nil_append, List.append_nil, List.length_cons, List.length_nil, List.drop_nil, List.size_toArray, Nat.reduceAdd, Nat.reduceLeDiff, Nat.reduceBEq, Nat.zero_add, Nat.le_refl, decide_true, mkV, List.headD_cons, cellsV, w_fldV, w_ext, w_fldP, List.getElem?_toArray, List.getElem?_cons_zero, List.getElem?_cons_succ, beq_self_eq_true, selV]
    refine ifB_of (fun h2 => bad _ g4 ?_) (fun h2 => ?_)
    · cases hs : stMay l s with
      | false => rfl
      | true =>
        exfalso
        obtain ⟨m1, m2⟩ := stMay_iff.1 hs
        have hb := m1 _ (List.getElem_mem hlt)
        refine absurd (hc.2 ⟨?_, hb⟩) (by rw [h2]; simp)
        rcases Nat.eq_zero_or_pos i with e | e
        · rw [k3 e]
          unfold blkMay at hb
          simp at hb
          omega
        · have hj' : i - 1 < s.length := by omega
          have := k2 (i - 1) (by omega)
          rw [List.getElem?_eq_getElem hj'] at this
          simp at this
          have h4 := List.pairwise_iff_getElem.1 m2 (i - 1) i hj' hlt (by omega)
          omega
    · obtain ⟨h3, h4⟩ := hc.1 h2
      rw [wrap_i64 (by unfold i64; omega)]
      refine hK _ _ hlt ⟨g4, ⟨s[i].id, by omega, fun j hj => ?_, fun h => by omega, by simp⟩, fun b hb => ?_, up_snoc hlt hu fun j hj => ?_⟩
      · have : j = i := by omega
        subst this
        rw [hx]; rfl
      · rw [List.take_succ_eq_append_getElem hlt, List.mem_append, List.mem_singleton] at hb
        rcases hb with hb | rfl
        · exact hm b hb
        · exact h4
      · rw [k2 j hj]; exact h3
  · rw [List.take_of_length_le (by omega)] at hm hu
    have := hQ H' g
    unfold stE at this
    rw [if_neg hs, stMay_iff.2 ⟨hm, hu⟩] at this
    exact this

theorem c_EqualFunc_Block {v w : Value} {s t : List Blk} (hv : Sl rBlk H A v s) (hw : Sl rBlk H B w t) (hl : s.length < 9223372036854775807) (hf : ∀ b ∈ s, b.data.length < 9223372036854775807) (hQ : ∀ H', G H H' → Q (.bool (decide (s = t))) H') :
    callV Try.prog (fnV fn_slices_EqualFunc_api_Block_api_Block_api_Block_api_Block) [v, w, fnV fn_slot_Same] H Q := by
  apply S_slices_EqualFunc_api_Block_api_Block_api_Block_api_Block_of
  unfold S_slices_EqualFunc_api_Block_api_Block_api_Block_api_Block
  refine hv.len (hw.len ?_)
  try simp only [sv_cons, sv_cons1, sc_cons, sc_cons1, asB_bool, ifB_true, ifB_false, un_not, bin_lss, bin_leq, bin_gtr, bin_geq, bin_eql, bin_neq, bin_add, bin_sub, bin_mul, ok_int, ok_bool, ok_slice, ok_str, ok_ptr, ok_map, ok_func, ok_iface, ok_nil, List.all_cons, List.all_nil, Bool.and_true, Bool.true_and, seg, setSeg, List.drop_succ_cons, List.drop_zero, List.take_succ_cons, List.take_zero, List.cons_append, List.nil_append, List.append_nil, List.length_cons, List.length_nil, List.drop_nil, List.size_toArray, Nat.reduceAdd, Nat.reduceLeDiff, Nat.reduceBEq, Nat.zero_add, Nat.le_refl, decide_true, mkV, List.headD_cons, cellsV, w_fldV, w_ext, w_fldP, List.getElem?_toArray, List.getElem?_cons_zero, List.getElem?_cons_succ, beq_self_eq_true, selV]
  refine ifD_of (fun hne => by have := hQ H (Fr.refl _ _); rw [decide_eq_false (fun e => hne (by rw [e]))] at this; exact this) (fun heq => ?_)
  have heq : s.length = t.length := by omega
  refine hv.len ?_
  refine loop_up s.length (fun i st H' => st = [[.int .i64 (i : Int)]] ∧ G H H' ∧ s.take i = t.take i) ⟨rfl, Fr.refl _ _, by simp⟩ ?_
  rintro i st H' K hi ⟨rfl, g, ht⟩ hK
  try simp only [sv_cons, sv_cons1, sc_cons, sc_cons1, asB_bool, ifB_true, ifB_false, un_not, bin_lss, bin_leq, bin_gtr, bin_geq, bin_eql, bin_neq, bin_add, bin_sub, bin_mul, ok_int, ok_bool, ok_slice, ok_str, ok_ptr, ok_map, ok_func, ok_iface, ok_nil, List.all_cons, List.all_nil, Bool.and_true, Bool.true_and, seg, setSeg, List.drop_succ_cons, List.drop_zero, List.take_succ_cons, List.take_zero, List.cons_append, List.nil_append, List.append_nil, List.length_cons, List.length_nil, List.drop_nil, List.size_toArray, Nat.reduceAdd, Nat.reduceLeDiff, Nat.reduceBEq, Nat.zero_add, Nat.le_refl, decide_true, mkV, List.headD_cons, cellsV, w_fldV, w_ext, w_fldP, List.getElem?_toArray, List.getElem?_cons_zero, List.getElem?_cons_succ, beq_self_eq_true, selV]
  refine ifD_of (fun hlt => ?_) (fun hge => ?_)
  · have hlt : i < s.length := by omega
    have hlt' : i < t.length := by omega
    refine (hv.g g).get rfl (List.getElem?_eq_getElem hlt) fun cs ⟨u, hc, hu⟩ => newT_of fun H2 g2 _ => ?_
    subst hc
    have hok := hu.okcv
    try simp only [sv_cons, sv_cons1, sc_cons, sc_cons1, asB_bool, ifB_true, ifB_false, un_not, bin_lss, bin_leq, bin_gtr, bin_geq, bin_eql, bin_neq, bin_add, bin_sub, bin_mul, ok_int, ok_bool, ok_slice, ok_str, ok_ptr, ok_map, ok_func, ok_iface, ok_nil, List.all_cons, List.all_nil, Bool.and_true, Bool.true_and, seg, setSeg, List.drop_succ_cons, List.drop_zero, List.take_succ_cons, List.take_zero, List.cons_append, List.nil_append, List.append_nil, List.length_cons, List.length_nil, List.drop_nil, List.size_toArray, Nat.reduceAdd, Nat.reduceLeDiff, Nat.reduceBEq, Nat.zero_add, Nat.le_refl, decide_true, mkV, List.headD_cons, cellsV, w_fldV, w_ext, w_fldP, List.getElem?_toArray, List.getElem?_cons_zero, List.getElem?_cons_succ, beq_self_eq_true, selV, hok]
    refine (hw.g (g.trans g2)).get rfl (List.getElem?_eq_getElem hlt') fun cs2 ⟨u2, hc2, hu2⟩ => newT_of fun H3 g3 _ => ?_
    subst hc2
    have hok2 := hu2.okcv
    try simp only [sv_cons, sv_cons1, sc_cons, sc_cons1, asB_bool, ifB_true, ifB_false, un_not, bin_lss, bin_leq, bin_gtr, bin_geq, bin_eql, bin_neq, bin_add, bin_sub, bin_mul, ok_int, ok_bool, ok_slice, ok_str, ok_ptr, ok_map, ok_func, ok_iface, ok_nil, List.all_cons, List.all_nil, Bool.and_true, Bool.true_and, seg, setSeg, List.drop_succ_cons, List.drop_zero, List.take_succ_cons, List.take_zero, List.cons_append, List.nil_append, List.append_nil, List.length_cons, List.length_nil, List.drop_nil, List.size_toArray, Nat.reduceAdd, Nat.reduceLeDiff, Nat.reduceBEq, Nat.zero_add, Nat.le_refl, decide_true, mkV, List.headD_cons, cellsV, w_fldV, w_ext, w_fldP, List.getElem?_toArray, List.getElem?_cons_zero, List.getElem?_cons_succ, beq_self_eq_true, selV, hok2]
    refine c_slot_Same (hu.g (g2.trans g3)) (hu2.g g3) (hf _ (List.getElem_mem hlt)) fun H4 g4 => ?_
    have g := ((g.trans g2).trans g3).trans g4
    try simp only [sv_cons, sv_cons1, sc_cons, sc_cons1, asB_bool, ifB_true, ifB_false, un_not, bin_lss, bin_leq, bin_gtr, bin_geq, bin_eql, bin_neq, bin_add, bin_sub, bin_mul, ok_int, ok_bool, ok_slice, ok_str, ok_ptr, ok_map, ok_func, ok_iface, ok_nil, List.all_cons, List.all_nil, Bool.and_true, Bool.true_and, seg, setSeg, List.drop_succ_cons, List.drop_zero, List.take_succ_cons, List.take_zero, List.cons_append, List.nil_append, List.append_nil, List.length_cons, List.length_nil, List.drop_nil, List.size_toArray, Nat.reduceAdd, Nat.reduceLeDiff, Nat.reduceBEq, Nat.zero_add, Nat.le_refl, decide_true, mkV, List.headD_cons, cellsV, w_fldV, w_ext, w_fldP, List.getElem?_toArray, List.getElem?_cons_zero, List.getElem?_cons_succ, beq_self_eq_true, selV]
    by_cases he : s[i] = t[i]
    · rw [decide_eq_true he]
      simp only [Bool.not_true, ifB_false]
      rw [wrap_succ (by omega)]
      exact hK _ _ hlt ⟨rfl, g, take_eq_step hlt hlt' ht he⟩
    · rw [decide_eq_false he]
      simp only [Bool.not_false, ifB_true]
      have := hQ H4 g
      rw [decide_eq_false (fun e => he (by subst e; rfl))] at this; exact this
  · have : i = s.length := by omega
    subst this
    rw [List.take_length, heq, List.take_length] at ht
    have := hQ H' g
    rw [decide_eq_true ht] at this; exact this

theorem c_stash_Same {v w : Value} {s t : List Blk} (hv : Sl rBlk H A v s) (hw : Sl rBlk H B w t) (hl : s.length < 9223372036854775807) (hf : ∀ b ∈ s, b.data.length < 9223372036854775807) (hQ : ∀ H', G H H' → Q (.bool (decide (s = t))) H') :
    callV Try.prog (fnV fn_stash_Same) [v, w] H Q := by
  apply S_stash_Same_of
  unfold S_stash_Same
  exact c_EqualFunc_Block hv hw hl hf hQ

theorem c_Clone_Block {x : Value} {xs : List Blk} (hx : Sl rBlk H A x xs) (hl : xs.length ≤ 1000000) (hQ : ∀ u H' b, Ow rBlk H' b (fun y => A y ∧ y < H.size) u xs → G H H' → (b = 0 ∨ H.size < b) → Q u H') :
    callV Try.prog (fnV fn_slices_Clone_api_Block_api_Block) [x] H Q := by
  apply S_slices_Clone_api_Block_api_Block_of
  exact clone_gen (R := rBlk) hx rfl (by decide) rfl (by omega) (by omega) hQ

theorem c_stash_Twin {x : Value} {xs : List Blk} (hx : Sl rBlk H A x xs) (hl : xs.length ≤ 1000000) (hf : ∀ b ∈ xs, fits b) (hQ : ∀ u H', Bd rBlk H H' u xs → Q u H') : callV Try.prog (fnV fn_stash_Twin) [x] H Q := by
  apply S_stash_Twin_of
  unfold S_stash_Twin
  refine c_Clone_Block hx hl fun u H1 b hu g1 hb => hu.len ?_
  have hbl := hu.lt
  have hu := (hu.mono (A' := fun y => y + 1 ≠ b) fun y hy hlt => by omega).mark H.size
  refine loop_up xs.length (fun i st H' => G H H' ∧ H1.size ≤ H'.size ∧ Ow (rOld H.size rBlk) H' b (fun y => y + 1 ≠ b) u (flags xs i) ∧ st = [[.int .i64 (i : Int)]]) ⟨g1, Nat.le_refl _, hu, rfl⟩ ?_
  rintro i st H' K hi ⟨g, hsz, ho, rfl⟩ hK
  try simp only [sv_cons, sv_cons1, sc_cons, sc_cons1, asB_bool, ifB_true, ifB_false, un_not, bin_lss, bin_leq, bin_gtr, bin_geq, bin_eql, bin_neq, bin_add, bin_sub, bin_mul, ok_int, ok_bool, ok_slice, ok_str, ok_ptr, ok_map, ok_func, ok_iface, ok_nil, List.all_cons, List.all_nil, Bool.and_true, Bool.true_and, seg, setSeg, List.drop_succ_cons, List.drop_zero, List.take_succ_cons, List.take_zero, List.cons_append, List.nil_append, List.append_nil, List.length_cons, List.length_nil, List.drop_nil, List.size_toArray, Nat.reduceAdd, Nat.reduceLeDiff, Nat.reduceBEq, Nat.zero_add, Nat.le_refl, decide_true, mkV, List.headD_cons, cellsV, w_fldV, w_ext, w_fldP, List.getElem?_toArray, List.getElem?_cons_zero, List.getElem?_cons_succ, beq_self_eq_true, selV]
  refine ifD_of (fun h1 => ?_) (fun h1 => ?_)
  · have hlt : i < xs.length := by omega
    have hx : xs[i]? = some xs[i] := List.getElem?_eq_getElem hlt
    refine (ho.sl (A' := fun _ => True) (fun _ _ _ => trivial) fun _ _ => trivial).get rfl (flags_get hx) fun cs hr => ?_
    obtain ⟨w, hc, hw⟩ := hr
    refine newT_of fun H2 g2 _ => ?_
    subst hc
    have hok := hw.okcv
    try simp only [sv_cons, sv_cons1, sc_cons, sc_cons1, asB_bool, ifB_true, ifB_false, un_not, bin_lss, bin_leq, bin_gtr, bin_geq, bin_eql, bin_neq, bin_add, bin_sub, bin_mul, ok_int, ok_bool, ok_slice, ok_str, ok_ptr, ok_map, ok_func, ok_iface, ok_nil, List.all_cons, List.all_nil, Bool.and_true, Bool.true_and, seg, setSeg, List.drop_succ_cons, List.drop_zero, List.take_succ_cons, List.take_zero, List.cons_append, List.nil_append, List.append_nil, List.length_cons, List.length_nil, List.drop_nil, List.size_toArray, Nat.reduceAdd, Nat.reduceLeDiff, Nat.reduceBEq, Nat.zero_add, Nat.le_refl, decide_true, mkV, List.headD_cons, cellsV, w_fldV, w_ext, w_fldP, List.getElem?_toArray, List.getElem?_cons_zero, List.getElem?_cons_succ, beq_self_eq_true, selV, hok]
    refine c_slot_Twin (hw.g g2) (hf _ (List.getElem_mem hlt)) fun w2 H3 hw2 g3 => ?_
    have gg := g2.trans g3
    have hg := g.size
    have hg2 := g2.size
    refine (ho.g gg).put (x := (xs[i], true)) ⟨[.int .i64 xs[i].id, .int .i64 xs[i].leaf, w2], rfl, w2, rfl, hw2.mono fun y hy hlt => ⟨by omega, fun _ => by omega⟩⟩ rfl (fun h => by cases h) (by rw [flags_len]; exact hlt) (fun y hy _ => hy) fun H4 ho4 f4 s4 => ?_
    rw [flags_set hx] at ho4
    try simp only [sv_cons, sv_cons1, sc_cons, sc_cons1, asB_bool, ifB_true, ifB_false, un_not, bin_lss, bin_leq, bin_gtr, bin_geq, bin_eql, bin_neq, bin_add, bin_sub, bin_mul, ok_int, ok_bool, ok_slice, ok_str, ok_ptr, ok_map, ok_func, ok_iface, ok_nil, List.all_cons, List.all_nil, Bool.and_true, Bool.true_and, seg, setSeg, List.drop_succ_cons, List.drop_zero, List.take_succ_cons, List.take_zero, List.cons_append, List.nil_append, List.append_nil, List.length_cons, List.length_nil, List.drop_nil, List.size_toArray, Nat.reduceAdd, Nat.reduceLeDiff, Nat.reduceBEq, Nat.zero_add, Nat.le_refl, decide_true, mkV, List.headD_cons, cellsV, w_fldV, w_ext, w_fldP, List.getElem?_toArray, List.getElem?_cons_zero, List.getElem?_cons_succ, beq_self_eq_true, selV]
    rw [wrap_i64 (by unfold i64; omega)]
    have hs3 := gg.size
    exact hK _ _ hlt ⟨(g.trans gg).then f4 fun y hy => by omega, by omega, ho4, by simp⟩
  · have : i = xs.length := by omega
    subst this
    exact hQ u H' ⟨g, b, ho.unmark.mono fun y hy _ => ⟨hy.2, hy.1⟩, hb⟩

theorem c_stash_Find {l : Lvl} {v : Value} {s : List Blk} {n : Int} (hw : i64 l.width) (hv : Sl rBlk H A v s) (hl : s.length ≤ 1000) (hQ : ∀ u H', Sl rU8 H' (fun y => H.size ≤ y) u (findV l s n).data → G H H' → Q (tup2 (vBlk (findV l s n) u) (.bool (isV l s n))) H') :
    callV Try.prog (fnV fn_stash_Find) [.agg (cLvl l).toArray, v, .int .i64 n] H Q := by
  apply S_stash_Find_of
  unfold S_stash_Find
  have no : ∀ H', G H H' → findV l s n = blk0 → isV l s n = false → Q (tup2 (vBlk blk0 (.slice none 0 0)) (.bool false)) H' := fun H' g e1 e2 => by
    have := hQ (.slice none 0 0) H' (by rw [e1]; exact Sl.nil _ _ _ _ _) g
    rw [e1, e2] at this
    exact this
  refine newT_of fun H1 g1 s1 => newT_of fun H2 g2 s2 => c_stash_Check hw (hv.g (g1.trans g2)) (by omega) fun H3 g3 => ?_
  have g := (g1.trans g2).trans g3
  try simp only [sv_cons, sv_cons1, sc_cons, sc_cons1, asB_bool, ifB_true, ifB_false, un_not, bin_lss, bin_leq, bin_gtr, bin_geq, bin_eql, bin_neq, bin_add, bin_sub, bin_mul, ok_int, ok_bool, ok_slice, ok_str, ok_ptr, ok_map, ok_func, ok_iface, ok_nil, List.all_cons, List.all_nil, Bool.and_true, Bool.true_and, seg, setSeg, List.drop_succ_cons, List.drop_zero, List.take_succ_cons, List.take_zero, List.cons_append, List.nil_append, List.append_nil, List.length_cons, List.length_nil, List.drop_nil, List.size_toArray, Nat.reduceAdd, Nat.reduceLeDiff, Nat.reduceBEq, Nat.zero_add, Nat.le_refl, decide_true, mkV, List.headD_cons, cellsV, w_fldV, w_ext, w_fldP, List.getElem?_toArray, List.getElem?_cons_zero, List.getElem?_cons_succ, beq_self_eq_true, selV]
  refine ifD_of (fun h => no _ g (by unfold findV; rw [if_neg h]) (by unfold isV; rw [decide_eq_false h]; rfl)) (fun h => ?_)
  have h := Classical.not_not.1 h
  obtain ⟨hs0, hm⟩ := stE_0.1 h
  have hu := stMay_up hm
  refine c_stash_ids hv.okcv fun H4 g4 _ => c_stash_find (hv.g (g.trans g4)) hu (by omega) fun H5 g5 => ?_
  have g := (g.trans g4).trans g5
  try simp only [sv_cons, sv_cons1, sc_cons, sc_cons1, asB_bool, ifB_true, ifB_false, un_not, bin_lss, bin_leq, bin_gtr, bin_geq, bin_eql, bin_neq, bin_add, bin_sub, bin_mul, ok_int, ok_bool, ok_slice, ok_str, ok_ptr, ok_map, ok_func, ok_iface, ok_nil, List.all_cons, List.all_nil, Bool.and_true, Bool.true_and, seg, setSeg, List.drop_succ_cons, List.drop_zero, List.take_succ_cons, List.take_zero, List.cons_append, List.nil_append, List.append_nil, List.length_cons, List.length_nil, List.drop_nil, List.size_toArray, Nat.reduceAdd, Nat.reduceLeDiff, Nat.reduceBEq, Nat.zero_add, Nat.le_refl, decide_true, mkV, List.headD_cons, cellsV, w_fldV, w_ext, w_fldP, List.getElem?_toArray, List.getElem?_cons_zero, List.getElem?_cons_succ, beq_self_eq_true, selV]
  cases hh : hasB s n with
  | false =>
    try simp only [sv_cons, sv_cons1, sc_cons, sc_cons1, asB_bool, ifB_true, ifB_false, un_not, bin_lss, bin_leq, bin_gtr, bin_geq, bin_eql, bin_neq, bin_add, bin_sub, bin_mul, ok_int, ok_bool, ok_slice, ok_str, ok_ptr, ok_map, ok_func, ok_iface, ok_nil, List.all_cons, List.all_nil, Bool.and_true, Bool.true_and, seg, setSeg, List.drop_succ_cons, List.drop_zero, List.take_succ_cons, List.take_zero, List.cons_append, List.nil_append, List.append_nil, List.length_cons, List.length_nil, List.drop_nil, List.size_toArray, Nat.reduceAdd, Nat.reduceLeDiff, Nat.reduceBEq, Nat.zero_add, Nat.le_refl, decide_true, mkV, List.headD_cons, cellsV, w_fldV, w_ext, w_fldP, List.getElem?_toArray, List.getElem?_cons_zero, List.getElem?_cons_succ, beq_self_eq_true, selV, Bool.not_false]
    refine no _ g ?_ (by unfold isV; rw [hh, Bool.and_false])
    unfold findV
    rw [if_pos h]
    have : findB s n = none := by
      unfold findB
      rw [List.find?_eq_none]
      intro b hb he
      have : hasB s n = true := hasB_iff.2 ⟨b, hb, by simpa using he⟩
      rw [hh] at this; cases this
    rw [this]; rfl
  | true =>
    try simp only [sv_cons, sv_cons1, sc_cons, sc_cons1, asB_bool, ifB_true, ifB_false, un_not, bin_lss, bin_leq, bin_gtr, bin_geq, bin_eql, bin_neq, bin_add, bin_sub, bin_mul, ok_int, ok_bool, ok_slice, ok_str, ok_ptr, ok_map, ok_func, ok_iface, ok_nil, List.all_cons, List.all_nil, Bool.and_true, Bool.true_and, seg, setSeg, List.drop_succ_cons, List.drop_zero, List.take_succ_cons, List.take_zero, List.cons_append, List.nil_append, List.append_nil, List.length_cons, List.length_nil, List.drop_nil, List.size_toArray, Nat.reduceAdd, Nat.reduceLeDiff, Nat.reduceBEq, Nat.zero_add, Nat.le_refl, decide_true, mkV, List.headD_cons, cellsV, w_fldV, w_ext, w_fldP, List.getElem?_toArray, List.getElem?_cons_zero, List.getElem?_cons_succ, beq_self_eq_true, selV, Bool.not_true]
    obtain ⟨b, hb, he⟩ := (hasB_place hu).1 hh
    have e1 : findV l s n = b := by
      unfold findV
      rw [if_pos h, ← he, find_of hu (List.mem_of_getElem? hb)]; rfl
    have e2 : isV l s n = true := by unfold isV; rw [hh, decide_eq_true h]; rfl
    refine (hv.g g).get rfl hb fun cs ⟨w, hc, hw2⟩ => ?_
    subst hc
    have hfb := may_fits (stMay_mem hm b (List.mem_of_getElem? hb)) hs0
    refine c_slot_Twin hw2 (by unfold fits; omega) fun u H6 hu6 g6 => ?_
    have hok := hu6.okcv
    try simp only [sv_cons, sv_cons1, sc_cons, sc_cons1, asB_bool, ifB_true, ifB_false, un_not, bin_lss, bin_leq, bin_gtr, bin_geq, bin_eql, bin_neq, bin_add, bin_sub, bin_mul, ok_int, ok_bool, ok_slice, ok_str, ok_ptr, ok_map, ok_func, ok_iface, ok_nil, List.all_cons, List.all_nil, Bool.and_true, Bool.true_and, seg, setSeg, List.drop_succ_cons, List.drop_zero, List.take_succ_cons, List.take_zero, List.cons_append, List.nil_append, List.append_nil, List.length_cons, List.length_nil, List.drop_nil, List.size_toArray, Nat.reduceAdd, Nat.reduceLeDiff, Nat.reduceBEq, Nat.zero_add, Nat.le_refl, decide_true, mkV, List.headD_cons, cellsV, w_fldV, w_ext, w_fldP, List.getElem?_toArray, List.getElem?_cons_zero, List.getElem?_cons_succ, beq_self_eq_true, selV, hok]
    have hg := g.size
    have := hQ u H6 (by rw [e1]; exact hu6.mono fun y hy _ => by omega) (g.trans g6)
    rw [e1, e2] at this
    exact this

end Go.Proofs.Ytccdoecccaocjaa
