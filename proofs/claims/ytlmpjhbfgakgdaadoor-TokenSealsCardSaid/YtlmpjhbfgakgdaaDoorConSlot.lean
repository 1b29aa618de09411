/- Contracts: slots and blocks. -/
import Derived.Test.YtlmpjhbfgakgdaaDoorShStash
import Derived.Test.YtlmpjhbfgakgdaaDoorConDev
import Derived.Test.YtlmpjhbfgakgdaaDoorMdStash
import Derived.Test.YtlmpjhbfgakgdaaDoorAbKind
namespace Go.Proofs.YtlmpjhbfgakgdaaDoor
open Go.Ab Go.Md
set_option linter.unusedVariables false
set_option linter.unusedSimpArgs false
set_option maxRecDepth 20000

variable {H : Heap} {Q : Value → Heap → Prop} {A B C : Nat → Prop}

abbrev lvlOkP (l : Lvl) : Prop := (1 ≤ l.blocks ∧ l.blocks ≤ 64) ∧ (1 ≤ l.size ∧ l.size ≤ 32) ∧ (1 ≤ l.high ∧ l.high ≤ 6) ∧ l.blocks ≤ many l.high

theorem slotsL_pos {l : Lvl} (h : 1 ≤ slotsL l) : lvlOkP l := by
  unfold slotsL at h
  split at h
  · assumption
  · omega

theorem many_le {h : Int} (h1 : 1 ≤ h ∧ h ≤ 6) : 2 ≤ many h ∧ many h ≤ 64 := many_bound h1.1 h1.2

theorem slot_div {one all : Int} (h1 : 9 ≤ one) (h2 : one ≤ all) (h3 : all ≤ 4 * one) (h4 : ¬ all.tmod one > 0) : ∃ k : Int, (k = 1 ∨ k = 2 ∨ k = 3 ∨ k = 4) ∧ all = k * one ∧ all.tdiv one = k := by
  have e := Int.mul_tdiv_add_tmod all one
  have hr : 0 ≤ all.tmod one := by rw [Int.tmod_eq_emod_of_nonneg (by omega)]; exact Int.emod_nonneg _ (by omega)
  have hr0 : all.tmod one = 0 := by omega
  rw [hr0, Int.add_zero] at e
  generalize all.tdiv one = k at *
  have k1 : 1 ≤ k := by
    rcases Int.lt_or_le k 1 with h | h
    · have := Int.mul_le_mul_of_nonneg_left (show k ≤ 0 by omega) (show 0 ≤ one by omega)
      omega
    · exact h
  have k4 : k ≤ 4 := by
    rcases Int.lt_or_le 4 k with h | h
    · have := Int.mul_le_mul_of_nonneg_left (show 5 ≤ k by omega) (show 0 ≤ one by omega)
      omega
    · exact h
  exact ⟨k, by omega, by rw [← e, Int.mul_comm], rfl⟩

theorem slots_k {l : Lvl} (h : lvlOkP l) {k : Int} (hk : k = 1 ∨ k = 2 ∨ k = 3 ∨ k = 4) (e : l.width = k * (8 + l.size) + 64) : slotsL l = k := by
  unfold slotsL
  rw [if_pos h]
  have := h.2.1
  rcases hk with rfl | rfl | rfl | rfl <;> (repeat' split) <;> omega
theorem slots_ne {l : Lvl} (h : lvlOkP l) (hne : slotsL l ≠ 0) : ∃ k : Int, (k = 1 ∨ k = 2 ∨ k = 3 ∨ k = 4) ∧ l.width = k * (8 + l.size) + 64 ∧ slotsL l = k := by
  unfold slotsL at hne ⊢
  rw [if_pos h] at hne ⊢
  split
  · exact ⟨1, by omega, by assumption, rfl⟩
  · split
    · exact ⟨2, by omega, by assumption, rfl⟩
    · split
      · exact ⟨3, by omega, by assumption, rfl⟩
      · split
        · exact ⟨4, by omega, by assumption, rfl⟩
        · rename_i h1 h2 h3 h4; rw [if_neg h1, if_neg h2, if_neg h3, if_neg h4] at hne; exact absurd rfl hne

theorem c_slot_Slots {l : Lvl} (hw : i64 l.width) (hQ : ∀ H', G H H' → Q (tup2 (.int .i64 (slotsL l)) (.int .i64 (if slotsL l < 1 then 8 else 0))) H') : callV Tryd.prog (fnV fn_slot_Slots) [.agg (cLvl l).toArray] H Q := by
  apply S_slot_Slots_of
  unfold S_slot_Slots
  refine newT_of fun H1 g1 _ => c_geo_Leaves ?_
  have bad : slotsL l = 0 → Q (tup2 (.int .i64 0) (.int .i64 8)) H1 := fun h => by
    have := hQ H1 g1
    rw [h] at this
    exact this
  have hno : ¬ lvlOkP l → slotsL l = 0 := fun h => by unfold slotsL; rw [if_neg h]
  by_cases hh : highE l.high = 0
  · have hhi := highE_ok.1 hh
    have hmb := many_le hhi
    unfold leavesV
    rw [if_pos hh]
    try simp only [sv_cons, sv_cons1, sc_cons, sc_cons1, asB_bool, ifB_true, ifB_false, un_not, bin_lss, bin_leq, bin_gtr, bin_geq, bin_eql, bin_neq, bin_add, bin_sub, bin_mul, ok_int, ok_bool, ok_slice, ok_str, ok_ptr, ok_map, ok_func, ok_iface, ok_nil, List.all_cons, List.all_nil, Bool.and_true, Bool.true_and, seg, setSeg, List.drop_succ_cons, List.drop_zero, List.take_succ_cons, List.take_zero, List.cons_append, List.nil_append, List.append_nil, List.length_cons, List.length_nil, List.drop_nil, List.size_toArray, Nat.reduceAdd, Nat.reduceLeDiff, Nat.reduceBEq, Nat.zero_add, Nat.le_refl, decide_true, mkV, List.headD_cons, cellsV, w_fldV, w_ext, w_fldP, List.getElem?_toArray, List.getElem?_cons_zero, List.getElem?_cons_succ, beq_self_eq_true, selV]
    refine join_of (fun s H' => H' = H1 ∧ s = [[.bool (decide (¬ lvlOkP l))]]) (fun K hK => ?_) ?_
    · refine ifD_of (fun h => hK _ _ ⟨rfl, jb_t (by omega)⟩) (fun h1 => ?_)
      unfold minV
      try simp only [sv_cons, sv_cons1, sc_cons, sc_cons1, asB_bool, ifB_true, ifB_false, un_not, bin_lss, bin_leq, bin_gtr, bin_geq, bin_eql, bin_neq, bin_add, bin_sub, bin_mul, ok_int, ok_bool, ok_slice, ok_str, ok_ptr, ok_map, ok_func, ok_iface, ok_nil, List.all_cons, List.all_nil, Bool.and_true, Bool.true_and, seg, setSeg, List.drop_succ_cons, List.drop_zero, List.take_succ_cons, List.take_zero, List.cons_append, List.nil_append, List.append_nil, List.length_cons, List.length_nil, List.drop_nil, List.size_toArray, Nat.reduceAdd, Nat.reduceLeDiff, Nat.reduceBEq, Nat.zero_add, Nat.le_refl, decide_true, mkV, List.headD_cons, cellsV, w_fldV, w_ext, w_fldP, List.getElem?_toArray, List.getElem?_cons_zero, List.getElem?_cons_succ, beq_self_eq_true, selV]
      refine ifD_of (fun h => hK _ _ ⟨rfl, jb_t (by split at h <;> omega)⟩) (fun h2 => ?_)
      refine ifD_of (fun h => hK _ _ ⟨rfl, jb_t (by omega)⟩) (fun h3 => ?_)
      exact hK _ _ ⟨rfl, jb_d (by split at h2 <;> omega)⟩
    rintro s H2 ⟨rfl, rfl⟩
    try simp only [sv_cons, sv_cons1, sc_cons, sc_cons1, asB_bool, ifB_true, ifB_false, un_not, bin_lss, bin_leq, bin_gtr, bin_geq, bin_eql, bin_neq, bin_add, bin_sub, bin_mul, ok_int, ok_bool, ok_slice, ok_str, ok_ptr, ok_map, ok_func, ok_iface, ok_nil, List.all_cons, List.all_nil, Bool.and_true, Bool.true_and, seg, setSeg, List.drop_succ_cons, List.drop_zero, List.take_succ_cons, List.take_zero, List.cons_append, List.nil_append, List.append_nil, List.length_cons, List.length_nil, List.drop_nil, List.size_toArray, Nat.reduceAdd, Nat.reduceLeDiff, Nat.reduceBEq, Nat.zero_add, Nat.le_refl, decide_true, mkV, List.headD_cons, cellsV, w_fldV, w_ext, w_fldP, List.getElem?_toArray, List.getElem?_cons_zero, List.getElem?_cons_succ, beq_self_eq_true, selV]
    refine ifD_of (fun h => bad (hno h)) (fun h => ?_)
    have h := Classical.not_not.1 h
    rw [wrap_i64 (x := 8 + l.size) (by unfold i64; omega)]
    have hwr : IntKind.i64.wrap (l.width - 64) = l.width - 64 ∨ (l.width < -9223372036854775744 ∧ IntKind.i64.wrap (l.width - 64) = l.width - 64 + 18446744073709551616) := by
      unfold i64 at hw
      by_cases hx : l.width < -9223372036854775744
      · right
        refine ⟨hx, ?_⟩
        simp only [IntKind.wrap, IntKind.bits, IntKind.signed]
        simp
        omega
      · left; exact wrap_i64 (by unfold i64; omega)
    generalize IntKind.i64.wrap (l.width - 64) = all at *
    have hkw : ∀ k : Int, (k = 1 ∨ k = 2 ∨ k = 3 ∨ k = 4) → (l.width = k * (8 + l.size) + 64 ↔ all = k * (8 + l.size)) := fun k hk => by
      unfold i64 at hw
      rcases hk with rfl | rfl | rfl | rfl <;> omega
    refine join_of (fun s H' => H' = H2 ∧ s = [[.bool (decide (slotsL l = 0))]]) (fun K hK => ?_) ?_
    · have out : (all < 8 + l.size ∨ all > 4 * (8 + l.size)) → slotsL l = 0 := fun hx => Classical.byContradiction fun hne => by
        obtain ⟨k, hk, hkw', _⟩ := slots_ne h hne
        have := (hkw k hk).1 hkw'
        rcases hk with rfl | rfl | rfl | rfl <;> omega
      refine ifD_of (fun h1 => hK _ _ ⟨rfl, jb_t (out (.inl h1))⟩) (fun h1 => ?_)
      rw [wrap_i64 (x := 4 * (8 + l.size)) (by unfold i64; omega)]
      try simp only [sv_cons, sv_cons1, sc_cons, sc_cons1, asB_bool, ifB_true, ifB_false, un_not, bin_lss, bin_leq, bin_gtr, bin_geq, bin_eql, bin_neq, bin_add, bin_sub, bin_mul, ok_int, ok_bool, ok_slice, ok_str, ok_ptr, ok_map, ok_func, ok_iface, ok_nil, List.all_cons, List.all_nil, Bool.and_true, Bool.true_and, seg, setSeg, List.drop_succ_cons, List.drop_zero, List.take_succ_cons, List.take_zero, List.cons_append, List.nil_append, List.append_nil, List.length_cons, List.length_nil, List.drop_nil, List.size_toArray, Nat.reduceAdd, Nat.reduceLeDiff, Nat.reduceBEq, Nat.zero_add, Nat.le_refl, decide_true, mkV, List.headD_cons, cellsV, w_fldV, w_ext, w_fldP, List.getElem?_toArray, List.getElem?_cons_zero, List.getElem?_cons_succ, beq_self_eq_true, selV]
      refine ifD_of (fun h2 => hK _ _ ⟨rfl, jb_t (out (.inr h2))⟩) (fun h2 => ?_)
      refine w_rem (by omega) ?_
      try simp only [sv_cons, sv_cons1, sc_cons, sc_cons1, asB_bool, ifB_true, ifB_false, un_not, bin_lss, bin_leq, bin_gtr, bin_geq, bin_eql, bin_neq, bin_add, bin_sub, bin_mul, ok_int, ok_bool, ok_slice, ok_str, ok_ptr, ok_map, ok_func, ok_iface, ok_nil, List.all_cons, List.all_nil, Bool.and_true, Bool.true_and, seg, setSeg, List.drop_succ_cons, List.drop_zero, List.take_succ_cons, List.take_zero, List.cons_append, List.nil_append, List.append_nil, List.length_cons, List.length_nil, List.drop_nil, List.size_toArray, Nat.reduceAdd, Nat.reduceLeDiff, Nat.reduceBEq, Nat.zero_add, Nat.le_refl, decide_true, mkV, List.headD_cons, cellsV, w_fldV, w_ext, w_fldP, List.getElem?_toArray, List.getElem?_cons_zero, List.getElem?_cons_succ, beq_self_eq_true, selV]
      refine hK _ _ ⟨rfl, jb_d ⟨fun hgt => Classical.byContradiction fun hne => ?_, fun h0 => Classical.byContradiction fun hp => ?_⟩⟩
      · obtain ⟨k, hk, hkw', _⟩ := slots_ne h hne
        rw [(hkw k hk).1 hkw', Int.mul_tmod_left] at hgt
        omega
      · obtain ⟨k, hk, ka, _⟩ := slot_div (one := 8 + l.size) (all := all) (by omega) (by omega) (by omega) hp
        have := slots_k h hk ((hkw k hk).2 ka)
        omega
    rintro s H3 ⟨rfl, rfl⟩
    try simp only [sv_cons, sv_cons1, sc_cons, sc_cons1, asB_bool, ifB_true, ifB_false, un_not, bin_lss, bin_leq, bin_gtr, bin_geq, bin_eql, bin_neq, bin_add, bin_sub, bin_mul, ok_int, ok_bool, ok_slice, ok_str, ok_ptr, ok_map, ok_func, ok_iface, ok_nil, List.all_cons, List.all_nil, Bool.and_true, Bool.true_and, seg, setSeg, List.drop_succ_cons, List.drop_zero, List.take_succ_cons, List.take_zero, List.cons_append, List.nil_append, List.append_nil, List.length_cons, List.length_nil, List.drop_nil, List.size_toArray, Nat.reduceAdd, Nat.reduceLeDiff, Nat.reduceBEq, Nat.zero_add, Nat.le_refl, decide_true, mkV, List.headD_cons, cellsV, w_fldV, w_ext, w_fldP, List.getElem?_toArray, List.getElem?_cons_zero, List.getElem?_cons_succ, beq_self_eq_true, selV]
    refine ifD_of (fun h0 => bad h0) (fun h0 => ?_)
    obtain ⟨k, hk, hkw', ks⟩ := slots_ne h h0
    refine w_quo (by omega) ?_
    have hd : all.tdiv (8 + l.size) = k := by rw [(hkw k hk).1 hkw']; exact Int.mul_tdiv_cancel k (by omega)
    rw [hd, wrap_i64 (by unfold i64; omega)]
    have := hQ H3 g1
    rw [ks, if_neg (by omega)] at this
    exact this
  · have hhi : ¬ (1 ≤ l.high ∧ l.high ≤ 6) := fun h => hh (highE_ok.2 h)
    unfold leavesV
    rw [if_neg hh]
    try simp only [sv_cons, sv_cons1, sc_cons, sc_cons1, asB_bool, ifB_true, ifB_false, un_not, bin_lss, bin_leq, bin_gtr, bin_geq, bin_eql, bin_neq, bin_add, bin_sub, bin_mul, ok_int, ok_bool, ok_slice, ok_str, ok_ptr, ok_map, ok_func, ok_iface, ok_nil, List.all_cons, List.all_nil, Bool.and_true, Bool.true_and, seg, setSeg, List.drop_succ_cons, List.drop_zero, List.take_succ_cons, List.take_zero, List.cons_append, List.nil_append, List.append_nil, List.length_cons, List.length_nil, List.drop_nil, List.size_toArray, Nat.reduceAdd, Nat.reduceLeDiff, Nat.reduceBEq, Nat.zero_add, Nat.le_refl, decide_true, mkV, List.headD_cons, cellsV, w_fldV, w_ext, w_fldP, List.getElem?_toArray, List.getElem?_cons_zero, List.getElem?_cons_succ, beq_self_eq_true, selV]
    refine join_of (fun s H' => H' = H1 ∧ s = [[.bool true]]) (fun K hK => ?_) ?_
    · exact hK _ _ ⟨rfl, rfl⟩
    rintro s H2 ⟨rfl, rfl⟩
    exact bad (hno fun h => hhi h.2.2.1)

/-! ### Blocks -/

abbrev vBlk (b : Blk) (w : Value) : Value := .agg #[.int .i64 b.id, .int .i64 b.leaf, w]
theorem vrep_blk {H' : Heap} {F : Nat → Prop} {b : Blk} {w : Value} (h : Sl rU8 H' F w b.data) : VRep rBlk H' F true (vBlk b w) b := ⟨[.int .i64 b.id, .int .i64 b.leaf, w], rfl, w, rfl, h⟩

theorem c_slot_Check {l : Lvl} {b : Blk} {w : Value} (hl : i64 l.width) (hb : Sl rU8 H A w b.data) (hQ : ∀ H', G H H' → Q (.int .i64 (blkE l b)) H') : callV Tryd.prog (fnV fn_slot_Check) [.agg (cLvl l).toArray, vBlk b w] H Q := by
  apply S_slot_Check_of
  unfold S_slot_Check
  refine newT_of fun H1 g1 _ => newT_of fun H2 g2 _ => c_slot_Slots hl fun H3 g3 => ?_
  have g := (g1.trans g2).trans g3
  have hQ := hQ H3 g
  unfold blkE at hQ
  by_cases hs : slotsL l < 1
  · rw [if_pos hs] at hQ ⊢
    try simp only [sv_cons, sv_cons1, sc_cons, sc_cons1, asB_bool, ifB_true, ifB_false, un_not, bin_lss, bin_leq, bin_gtr, bin_geq, bin_eql, bin_neq, bin_add, bin_sub, bin_mul, ok_int, ok_bool, ok_slice, ok_str, ok_ptr, ok_map, ok_func, ok_iface, ok_nil, List.all_cons, List.all_nil, Bool.and_true, Bool.true_and, seg, setSeg, List.drop_succ_cons, List.drop_zero, List.take_succ_cons, List.take_zero, List.cons_append, List.nil_append, List.append_nil, List.length_cons, List.length_nil, List.drop_nil, List.size_toArray, Nat.reduceAdd, Nat.reduceLeDiff, Nat.reduceBEq, Nat.zero_add, Nat.le_refl, decide_true, mkV, List.headD_cons, cellsV, w_fldV, w_ext, w_fldP, List.getElem?_toArray, List.getElem?_cons_zero, List.getElem?_cons_succ, beq_self_eq_true, selV]
    exact hQ
  · rw [if_neg hs] at hQ ⊢
    try simp only [sv_cons, sv_cons1, sc_cons, sc_cons1, asB_bool, ifB_true, ifB_false, un_not, bin_lss, bin_leq, bin_gtr, bin_geq, bin_eql, bin_neq, bin_add, bin_sub, bin_mul, ok_int, ok_bool, ok_slice, ok_str, ok_ptr, ok_map, ok_func, ok_iface, ok_nil, List.all_cons, List.all_nil, Bool.and_true, Bool.true_and, seg, setSeg, List.drop_succ_cons, List.drop_zero, List.take_succ_cons, List.take_zero, List.cons_append, List.nil_append, List.append_nil, List.length_cons, List.length_nil, List.drop_nil, List.size_toArray, Nat.reduceAdd, Nat.reduceLeDiff, Nat.reduceBEq, Nat.zero_add, Nat.le_refl, decide_true, mkV, List.headD_cons, cellsV, w_fldV, w_ext, w_fldP, List.getElem?_toArray, List.getElem?_cons_zero, List.getElem?_cons_succ, beq_self_eq_true, selV]
    obtain ⟨o1, o2, o3, o4⟩ := slotsL_pos (l := l) (by omega)
    rw [show decide ((0 : Int) ≠ 0) = false from rfl]
    try simp only [sv_cons, sv_cons1, sc_cons, sc_cons1, asB_bool, ifB_true, ifB_false, un_not, bin_lss, bin_leq, bin_gtr, bin_geq, bin_eql, bin_neq, bin_add, bin_sub, bin_mul, ok_int, ok_bool, ok_slice, ok_str, ok_ptr, ok_map, ok_func, ok_iface, ok_nil, List.all_cons, List.all_nil, Bool.and_true, Bool.true_and, seg, setSeg, List.drop_succ_cons, List.drop_zero, List.take_succ_cons, List.take_zero, List.cons_append, List.nil_append, List.append_nil, List.length_cons, List.length_nil, List.drop_nil, List.size_toArray, Nat.reduceAdd, Nat.reduceLeDiff, Nat.reduceBEq, Nat.zero_add, Nat.le_refl, decide_true, mkV, List.headD_cons, cellsV, w_fldV, w_ext, w_fldP, List.getElem?_toArray, List.getElem?_cons_zero, List.getElem?_cons_succ, beq_self_eq_true, selV]
    refine c_geo_Leaves ?_
    unfold leavesV
    rw [if_pos (highE_ok.2 o3)]
    try simp only [sv_cons, sv_cons1, sc_cons, sc_cons1, asB_bool, ifB_true, ifB_false, un_not, bin_lss, bin_leq, bin_gtr, bin_geq, bin_eql, bin_neq, bin_add, bin_sub, bin_mul, ok_int, ok_bool, ok_slice, ok_str, ok_ptr, ok_map, ok_func, ok_iface, ok_nil, List.all_cons, List.all_nil, Bool.and_true, Bool.true_and, seg, setSeg, List.drop_succ_cons, List.drop_zero, List.take_succ_cons, List.take_zero, List.cons_append, List.nil_append, List.append_nil, List.length_cons, List.length_nil, List.drop_nil, List.size_toArray, Nat.reduceAdd, Nat.reduceLeDiff, Nat.reduceBEq, Nat.zero_add, Nat.le_refl, decide_true, mkV, List.headD_cons, cellsV, w_fldV, w_ext, w_fldP, List.getElem?_toArray, List.getElem?_cons_zero, List.getElem?_cons_succ, beq_self_eq_true, selV]
    refine join_of (fun s H' => H' = H3 ∧ s = [[.bool (decide (¬ blkMay l b = true))]]) (fun K hK => ?_) ?_
    · refine ifD_of (fun h => hK _ _ ⟨rfl, jb_t (by unfold blkMay; simp; omega)⟩) (fun h1 => ?_)
      refine ifD_of (fun h => hK _ _ ⟨rfl, jb_t (by unfold blkMay; simp; omega)⟩) (fun h2 => ?_)
      refine ifD_of (fun h => hK _ _ ⟨rfl, jb_t (by unfold blkMay; simp; omega)⟩) (fun h3 => ?_)
      refine ifD_of (fun h => hK _ _ ⟨rfl, jb_t (by unfold blkMay; simp; omega)⟩) (fun h4 => hb.len ?_)
      try simp only [sv_cons, sv_cons1, sc_cons, sc_cons1, asB_bool, ifB_true, ifB_false, un_not, bin_lss, bin_leq, bin_gtr, bin_geq, bin_eql, bin_neq, bin_add, bin_sub, bin_mul, ok_int, ok_bool, ok_slice, ok_str, ok_ptr, ok_map, ok_func, ok_iface, ok_nil, List.all_cons, List.all_nil, Bool.and_true, Bool.true_and, seg, setSeg, List.drop_succ_cons, List.drop_zero, List.take_succ_cons, List.take_zero, List.cons_append, List.nil_append, List.append_nil, List.length_cons, List.length_nil, List.drop_nil, List.size_toArray, Nat.reduceAdd, Nat.reduceLeDiff, Nat.reduceBEq, Nat.zero_add, Nat.le_refl, decide_true, mkV, List.headD_cons, cellsV, w_fldV, w_ext, w_fldP, List.getElem?_toArray, List.getElem?_cons_zero, List.getElem?_cons_succ, beq_self_eq_true, selV]
      exact hK _ _ ⟨rfl, jb_d (by unfold blkMay; simp; omega)⟩
    rintro s H4 ⟨rfl, rfl⟩
    try simp only [sv_cons, sv_cons1, sc_cons, sc_cons1, asB_bool, ifB_true, ifB_false, un_not, bin_lss, bin_leq, bin_gtr, bin_geq, bin_eql, bin_neq, bin_add, bin_sub, bin_mul, ok_int, ok_bool, ok_slice, ok_str, ok_ptr, ok_map, ok_func, ok_iface, ok_nil, List.all_cons, List.all_nil, Bool.and_true, Bool.true_and, seg, setSeg, List.drop_succ_cons, List.drop_zero, List.take_succ_cons, List.take_zero, List.cons_append, List.nil_append, List.append_nil, List.length_cons, List.length_nil, List.drop_nil, List.size_toArray, Nat.reduceAdd, Nat.reduceLeDiff, Nat.reduceBEq, Nat.zero_add, Nat.le_refl, decide_true, mkV, List.headD_cons, cellsV, w_fldV, w_ext, w_fldP, List.getElem?_toArray, List.getElem?_cons_zero, List.getElem?_cons_succ, beq_self_eq_true, selV]
    refine ifD_of (fun h => ?_) (fun h => ?_)
    · rw [if_neg h] at hQ; exact hQ
    · rw [if_pos (Classical.not_not.1 h)] at hQ; exact hQ

theorem c_ref09_May {l : Lvl} {b : Blk} {w : Value} (hh : 0 ≤ l.high ∧ l.high ≤ 62) (hb : Sl rU8 H A w b.data) (hQ : ∀ H', G H H' → Q (.bool (blkMay l b)) H') : callV Tryd.prog (fnV fn_ref09_May) [.agg (cLvl l).toArray, vBlk b w] H Q := by
  apply S_ref09_May_of
  unfold S_ref09_May
  refine newT_of fun H1 g1 _ => newT_of fun H2 g2 _ => ?_
  have hQ := hQ H2 (g1.trans g2)
  have hb := hb.g (g1.trans g2)
  refine join_of (fun s H' => H' = H2 ∧ s = [[.bool (decide (blkMay l b = true))]]) (fun K hK => ?_) ?_
  · try simp only [sv_cons, sv_cons1, sc_cons, sc_cons1, asB_bool, ifB_true, ifB_false, un_not, bin_lss, bin_leq, bin_gtr, bin_geq, bin_eql, bin_neq, bin_add, bin_sub, bin_mul, ok_int, ok_bool, ok_slice, ok_str, ok_ptr, ok_map, ok_func, ok_iface, ok_nil, List.all_cons, List.all_nil, Bool.and_true, Bool.true_and, seg, setSeg, List.drop_succ_cons, List.drop_zero, List.take_succ_cons, List.take_zero, List.cons_append, List.nil_append, List.append_nil, List.length_cons, List.length_nil, List.drop_nil, List.size_toArray, Nat.reduceAdd, Nat.reduceLeDiff, Nat.reduceBEq, Nat.zero_add, Nat.le_refl, decide_true, mkV, List.headD_cons, cellsV, w_fldV, w_ext, w_fldP, List.getElem?_toArray, List.getElem?_cons_zero, List.getElem?_cons_succ, beq_self_eq_true, selV]
    refine ifD_of (fun h1 => ?_) (fun h => hK _ _ ⟨rfl, jb_f (by unfold blkMay; simp; omega)⟩)
    refine ifD_of (fun h2 => ?_) (fun h => hK _ _ ⟨rfl, jb_f (by unfold blkMay; simp; omega)⟩)
    refine ifD_of (fun h3 => c_ref07_Many hh ?_) (fun h => hK _ _ ⟨rfl, jb_f (by unfold blkMay; simp; omega)⟩)
    try simp only [sv_cons, sv_cons1, sc_cons, sc_cons1, asB_bool, ifB_true, ifB_false, un_not, bin_lss, bin_leq, bin_gtr, bin_geq, bin_eql, bin_neq, bin_add, bin_sub, bin_mul, ok_int, ok_bool, ok_slice, ok_str, ok_ptr, ok_map, ok_func, ok_iface, ok_nil, List.all_cons, List.all_nil, Bool.and_true, Bool.true_and, seg, setSeg, List.drop_succ_cons, List.drop_zero, List.take_succ_cons, List.take_zero, List.cons_append, List.nil_append, List.append_nil, List.length_cons, List.length_nil, List.drop_nil, List.size_toArray, Nat.reduceAdd, Nat.reduceLeDiff, Nat.reduceBEq, Nat.zero_add, Nat.le_refl, decide_true, mkV, List.headD_cons, cellsV, w_fldV, w_ext, w_fldP, List.getElem?_toArray, List.getElem?_cons_zero, List.getElem?_cons_succ, beq_self_eq_true, selV]
    refine ifD_of (fun h4 => hb.len ?_) (fun h => hK _ _ ⟨rfl, jb_f (by unfold blkMay; simp; omega)⟩)
    try simp only [sv_cons, sv_cons1, sc_cons, sc_cons1, asB_bool, ifB_true, ifB_false, un_not, bin_lss, bin_leq, bin_gtr, bin_geq, bin_eql, bin_neq, bin_add, bin_sub, bin_mul, ok_int, ok_bool, ok_slice, ok_str, ok_ptr, ok_map, ok_func, ok_iface, ok_nil, List.all_cons, List.all_nil, Bool.and_true, Bool.true_and, seg, setSeg, List.drop_succ_cons, List.drop_zero, List.take_succ_cons, List.take_zero, List.cons_append, List.nil_append, List.append_nil, List.length_cons, List.length_nil, List.drop_nil, List.size_toArray, Nat.reduceAdd, Nat.reduceLeDiff, Nat.reduceBEq, Nat.zero_add, Nat.le_refl, decide_true, mkV, List.headD_cons, cellsV, w_fldV, w_ext, w_fldP, List.getElem?_toArray, List.getElem?_cons_zero, List.getElem?_cons_succ, beq_self_eq_true, selV]
    exact hK _ _ ⟨rfl, jb_d (by unfold blkMay; simp; omega)⟩
  rintro s H3 ⟨rfl, rfl⟩
  try simp only [sv_cons, sv_cons1, sc_cons, sc_cons1, asB_bool, ifB_true, ifB_false, un_not, bin_lss, bin_leq, bin_gtr, bin_geq, bin_eql, bin_neq, bin_add, bin_sub, bin_mul, ok_int, ok_bool, ok_slice, ok_str, ok_ptr, ok_map, ok_func, ok_iface, ok_nil, List.all_cons, List.all_nil, Bool.and_true, Bool.true_and, seg, setSeg, List.drop_succ_cons, List.drop_zero, List.take_succ_cons, List.take_zero, List.cons_append, List.nil_append, List.append_nil, List.length_cons, List.length_nil, List.drop_nil, List.size_toArray, Nat.reduceAdd, Nat.reduceLeDiff, Nat.reduceBEq, Nat.zero_add, Nat.le_refl, decide_true, mkV, List.headD_cons, cellsV, w_fldV, w_ext, w_fldP, List.getElem?_toArray, List.getElem?_cons_zero, List.getElem?_cons_succ, beq_self_eq_true, selV]
  rw [Bool.decide_eq_true]
  exact hQ

theorem blk_eq {a b : Blk} : a = b ↔ a.id = b.id ∧ a.leaf = b.leaf ∧ a.data = b.data := by cases a; cases b; simp

theorem c_ref09_Same {a b : Blk} {v w : Value} (ha : Sl rU8 H A v a.data) (hb : Sl rU8 H B w b.data) (hQ : ∀ H', G H H' → Q (.bool (decide (a = b))) H') : callV Tryd.prog (fnV fn_ref09_Same) [vBlk a v, vBlk b w] H Q := by
  apply S_ref09_Same_of
  unfold S_ref09_Same
  refine newT_of fun H1 g1 _ => newT_of fun H2 g2 _ => ?_
  have hQ := hQ H2 (g1.trans g2)
  refine join_of (fun s H' => H' = H2 ∧ s = [[.bool (decide (a = b))]]) (fun K hK => ?_) ?_
  · try simp only [sv_cons, sv_cons1, sc_cons, sc_cons1, asB_bool, ifB_true, ifB_false, un_not, bin_lss, bin_leq, bin_gtr, bin_geq, bin_eql, bin_neq, bin_add, bin_sub, bin_mul, ok_int, ok_bool, ok_slice, ok_str, ok_ptr, ok_map, ok_func, ok_iface, ok_nil, List.all_cons, List.all_nil, Bool.and_true, Bool.true_and, seg, setSeg, List.drop_succ_cons, List.drop_zero, List.take_succ_cons, List.take_zero, List.cons_append, List.nil_append, List.append_nil, List.length_cons, List.length_nil, List.drop_nil, List.size_toArray, Nat.reduceAdd, Nat.reduceLeDiff, Nat.reduceBEq, Nat.zero_add, Nat.le_refl, decide_true, mkV, List.headD_cons, cellsV, w_fldV, w_ext, w_fldP, List.getElem?_toArray, List.getElem?_cons_zero, List.getElem?_cons_succ, beq_self_eq_true, selV]
    refine ifD_of (fun h1 => ?_) (fun h => hK _ _ ⟨rfl, jb_f fun e => h (by rw [e])⟩)
    refine ifD_of (fun h2 => ?_) (fun h => hK _ _ ⟨rfl, jb_f fun e => h (by rw [e])⟩)
    exact c_ref01_Same (ha.g (g1.trans g2)) (hb.g (g1.trans g2)) (hK _ _ ⟨rfl, jb_d (by rw [blk_eq]; simp [h1, h2])⟩)
  rintro s H3 ⟨rfl, rfl⟩
  exact hQ

theorem c_ref09_SameAll {v w : Value} {s t : List Blk} (hv : Sl rBlk H A v s) (hw : Sl rBlk H B w t) (hl : s.length < 9223372036854775807) (hQ : ∀ H', G H H' → Q (.bool (decide (s = t))) H') : callV Tryd.prog (fnV fn_ref09_SameAll) [v, w] H Q := by
  apply S_ref09_SameAll_of
  unfold S_ref09_SameAll
  refine hv.len (hw.len ?_)
  try simp only [sv_cons, sv_cons1, sc_cons, sc_cons1, asB_bool, ifB_true, ifB_false, un_not, bin_lss, bin_leq, bin_gtr, bin_geq, bin_eql, bin_neq, bin_add, bin_sub, bin_mul, ok_int, ok_bool, ok_slice, ok_str, ok_ptr, ok_map, ok_func, ok_iface, ok_nil, List.all_cons, List.all_nil, Bool.and_true, Bool.true_and, seg, setSeg, List.drop_succ_cons, List.drop_zero, List.take_succ_cons, List.take_zero, List.cons_append, List.nil_append, List.append_nil, List.length_cons, List.length_nil, List.drop_nil, List.size_toArray, Nat.reduceAdd, Nat.reduceLeDiff, Nat.reduceBEq, Nat.zero_add, Nat.le_refl, decide_true, mkV, List.headD_cons, cellsV, w_fldV, w_ext, w_fldP, List.getElem?_toArray, List.getElem?_cons_zero, List.getElem?_cons_succ, beq_self_eq_true, selV]
  refine ifD_of (fun hne => by have := hQ H (Fr.refl _ _); rw [decide_eq_false (fun e => hne (by rw [e]))] at this; exact this) (fun heq => ?_)
  have heq : s.length = t.length := by omega
  refine loop_up s.length (fun i st H' => st = [[.int .i64 (i : Int)]] ∧ G H H' ∧ s.take i = t.take i) ⟨rfl, Fr.refl _ _, by simp⟩ ?_
  rintro i st H' K hi ⟨rfl, g, ht⟩ hK
  refine hv.len ?_
  try simp only [sv_cons, sv_cons1, sc_cons, sc_cons1, asB_bool, ifB_true, ifB_false, un_not, bin_lss, bin_leq, bin_gtr, bin_geq, bin_eql, bin_neq, bin_add, bin_sub, bin_mul, ok_int, ok_bool, ok_slice, ok_str, ok_ptr, ok_map, ok_func, ok_iface, ok_nil, List.all_cons, List.all_nil, Bool.and_true, Bool.true_and, seg, setSeg, List.drop_succ_cons, List.drop_zero, List.take_succ_cons, List.take_zero, List.cons_append, List.nil_append, List.append_nil, List.length_cons, List.length_nil, List.drop_nil, List.size_toArray, Nat.reduceAdd, Nat.reduceLeDiff, Nat.reduceBEq, Nat.zero_add, Nat.le_refl, decide_true, mkV, List.headD_cons, cellsV, w_fldV, w_ext, w_fldP, List.getElem?_toArray, List.getElem?_cons_zero, List.getElem?_cons_succ, beq_self_eq_true, selV]
  refine ifD_of (fun hlt => ?_) (fun hge => ?_)
  · have hlt : i < s.length := by omega
    have hlt' : i < t.length := by omega
    refine (hv.g g).get rfl (List.getElem?_eq_getElem hlt) fun cs hr => (hw.g g).get rfl (List.getElem?_eq_getElem hlt') fun cs2 hr2 => ?_
    obtain ⟨u, rfl, hu⟩ := hr
    obtain ⟨u2, rfl, hu2⟩ := hr2
    refine c_ref09_Same hu hu2 fun H2 g2 => ?_
    try simp only [sv_cons, sv_cons1, sc_cons, sc_cons1, asB_bool, ifB_true, ifB_false, un_not, bin_lss, bin_leq, bin_gtr, bin_geq, bin_eql, bin_neq, bin_add, bin_sub, bin_mul, ok_int, ok_bool, ok_slice, ok_str, ok_ptr, ok_map, ok_func, ok_iface, ok_nil, List.all_cons, List.all_nil, Bool.and_true, Bool.true_and, seg, setSeg, List.drop_succ_cons, List.drop_zero, List.take_succ_cons, List.take_zero, List.cons_append, List.nil_append, List.append_nil, List.length_cons, List.length_nil, List.drop_nil, List.size_toArray, Nat.reduceAdd, Nat.reduceLeDiff, Nat.reduceBEq, Nat.zero_add, Nat.le_refl, decide_true, mkV, List.headD_cons, cellsV, w_fldV, w_ext, w_fldP, List.getElem?_toArray, List.getElem?_cons_zero, List.getElem?_cons_succ, beq_self_eq_true, selV]
    by_cases he : s[i] = t[i]
    · rw [decide_eq_true he]
      simp only [Bool.not_true, ifB_false]
      rw [wrap_succ (by omega)]
      exact hK _ _ hlt ⟨rfl, g.trans g2, take_eq_step hlt hlt' ht he⟩
    · rw [decide_eq_false he]
      simp only [Bool.not_false, ifB_true]
      have := hQ H2 (g.trans g2)
      rw [decide_eq_false (fun e => he (by subst e; rfl))] at this; exact this
  · have : i = s.length := by omega
    subst this
    rw [List.take_length, heq, List.take_length] at ht
    have := hQ H' g
    rw [decide_eq_true ht] at this; exact this

/-- Bytes that may be copied. -/
abbrev fits (b : Blk) : Prop := b.data.length ≤ 140737488355328

theorem c_ref09_Twin {b : Blk} {w : Value} (hb : Sl rU8 H A w b.data) (hf : fits b) (hQ : ∀ u H', Sl rU8 H' (fun y => H.size ≤ y) u b.data → G H H' → Q (vBlk b u) H') : callV Tryd.prog (fnV fn_ref09_Twin) [vBlk b w] H Q := by
  apply S_ref09_Twin_of
  unfold S_ref09_Twin
  refine newT_of fun H1 g1 s1 => newT_of fun H2 g2 s2 => bld_nil rU8 fun t H3 ht g3 s3 => ?_
  have g := (g1.trans g2).trans g3
  refine clone_appL ht (hb.g g) rfl (by unfold fits at hf; omega) fun u H4 b4 hu f4 hb4 => ?_
  have g4 : G H H4 := g.then f4 fun y hy => by omega
  have hok := hu.okcv
  try simp only [sv_cons, sv_cons1, sc_cons, sc_cons1, asB_bool, ifB_true, ifB_false, un_not, bin_lss, bin_leq, bin_gtr, bin_geq, bin_eql, bin_neq, bin_add, bin_sub, bin_mul, ok_int, ok_bool, ok_slice, ok_str, ok_ptr, ok_map, ok_func, ok_iface, ok_nil, List.all_cons, List.all_nil, Bool.and_true, Bool.true_and, seg, setSeg, List.drop_succ_cons, List.drop_zero, List.take_succ_cons, List.take_zero, List.cons_append, List.nil_append, List.append_nil, List.length_cons, List.length_nil, List.drop_nil, List.size_toArray, Nat.reduceAdd, Nat.reduceLeDiff, Nat.reduceBEq, Nat.zero_add, Nat.le_refl, decide_true, mkV, List.headD_cons, cellsV, w_fldV, w_ext, w_fldP, List.getElem?_toArray, List.getElem?_cons_zero, List.getElem?_cons_succ, beq_self_eq_true, selV, hok]
  exact hQ u H4 (hu.slF fun k hk => by omega) g4

theorem c_CloneF {x : Value} {bs : By} (hx : Sl rU8 H A x bs) (hl : bs.length ≤ 140737488355328) (hQ : ∀ u H' b, Ow rU8 H' b (fun _ => False) u bs → G H H' → (b = 0 ∨ H.size < b) → Q u H') : callV Tryd.prog (fnV fn_slices_Clone_byte_byte) [x] H Q := by
  apply S_slices_Clone_byte_byte_of
  exact clone_gen (R := rU8) hx rfl (by decide) rfl (by omega) (by omega) fun u H' b ho => hQ u H' b ho

theorem c_ref09_TwinAll {v : Value} {s : List Blk} (hv : Sl rBlk H A v s) (hl : s.length ≤ 1000) (hf : ∀ b ∈ s, fits b) (hQ : ∀ u H', Sl rBlk H' (fun y => H.size ≤ y) u s → G H H' → Q u H') : callV Tryd.prog (fnV fn_ref09_TwinAll) [v] H Q := by
  apply S_ref09_TwinAll_of
  unfold S_ref09_TwinAll
  refine loop_up s.length (fun i st H' => ∃ u, Bd rBlk H H' u (s.take i) ∧ st = [[u], [.int .i64 (i : Int)]]) ⟨_, by simpa using Bd.nil rBlk (Fr.refl _ H), rfl⟩ ?_
  rintro i st H' K hi ⟨u, hb, rfl⟩ hK
  refine hv.len ?_
  try simp only [sv_cons, sv_cons1, sc_cons, sc_cons1, asB_bool, ifB_true, ifB_false, un_not, bin_lss, bin_leq, bin_gtr, bin_geq, bin_eql, bin_neq, bin_add, bin_sub, bin_mul, ok_int, ok_bool, ok_slice, ok_str, ok_ptr, ok_map, ok_func, ok_iface, ok_nil, List.all_cons, List.all_nil, Bool.and_true, Bool.true_and, seg, setSeg, List.drop_succ_cons, List.drop_zero, List.take_succ_cons, List.take_zero, List.cons_append, List.nil_append, List.append_nil, List.length_cons, List.length_nil, List.drop_nil, List.size_toArray, Nat.reduceAdd, Nat.reduceLeDiff, Nat.reduceBEq, Nat.zero_add, Nat.le_refl, decide_true, mkV, List.headD_cons, cellsV, w_fldV, w_ext, w_fldP, List.getElem?_toArray, List.getElem?_cons_zero, List.getElem?_cons_succ, beq_self_eq_true, selV]
  refine ifD_of (fun h1 => ?_) (fun h1 => ?_)
  · have hlt : i < s.length := by omega
    have hx : s[i]? = some s[i] := List.getElem?_eq_getElem hlt
    have htk : (s.take i).length = i := by rw [List.length_take]; omega
    refine (hv.g hb.g).get rfl hx fun cs ⟨w, hc, hw⟩ => ?_
    subst hc
    refine c_ref09_Twin hw (hf _ (List.getElem_mem hlt)) fun w2 H2 hw2 g2 => ?_
    refine hb.push g2 (vrep_blk hw2) rfl (by decide) (fun h => by cases h) rfl rfl (fun y hy _ => hy) (by rw [htk]; omega) (by rw [htk]; omega) fun u' H3 hb' => ?_
    try simp only [sv_cons, sv_cons1, sc_cons, sc_cons1, asB_bool, ifB_true, ifB_false, un_not, bin_lss, bin_leq, bin_gtr, bin_geq, bin_eql, bin_neq, bin_add, bin_sub, bin_mul, ok_int, ok_bool, ok_slice, ok_str, ok_ptr, ok_map, ok_func, ok_iface, ok_nil, List.all_cons, List.all_nil, Bool.and_true, Bool.true_and, seg, setSeg, List.drop_succ_cons, List.drop_zero, List.take_succ_cons, List.take_zero, List.cons_append, List.nil_append, List.append_nil, List.length_cons, List.length_nil, List.drop_nil, List.size_toArray, Nat.reduceAdd, Nat.reduceLeDiff, Nat.reduceBEq, Nat.zero_add, Nat.le_refl, decide_true, mkV, List.headD_cons, cellsV, w_fldV, w_ext, w_fldP, List.getElem?_toArray, List.getElem?_cons_zero, List.getElem?_cons_succ, beq_self_eq_true, selV]
    rw [wrap_i64 (by unfold i64; omega)]
    exact hK _ _ hlt ⟨u', by rw [List.take_succ_eq_append_getElem hlt]; exact hb', by simp⟩
  · have : i = s.length := by omega
    subst this
    rw [List.take_length] at hb
    exact hQ u H' hb.sl hb.g

end Go.Proofs.YtlmpjhbfgakgdaaDoor
