/- Contracts: crashes. -/
import Derived.Test.YtelfpkegpffajaaConLaw13d
import Derived.Test.YtelfpkegpffajaaMdHarm3
namespace Go.Proofs.Ytelfpkegpffajaa
open Go.Ab Go.Md
set_option linter.unusedVariables false
set_option linter.unusedSimpArgs false
set_option maxRecDepth 20000

variable {H : Heap} {Q : Value → Heap → Prop} {A B C : Nat → Prop}

theorem w_boolneq (a b : Bool) (k : Value → Prop) : binV .bool .neq (.bool a) (.bool b) k = k (.bool (a != b)) := by simp [binV, binR, bne]

theorem mid_blank13 {c : Cfg} : Mid (if c.may then blankD c else []) := by
  split
  · rename_i hc; exact mid_blank' hc
  · exact mid_nil

theorem err_zero {c : Cfg} (h : c.err = 0) : c.may := by
  unfold Cfg.err at h
  split at h
  · assumption
  · omega

theorem crash_ok {n : Int} (hn : i64 n) : (⟨5, 0, 0, 0, n, 0⟩ : Hm).ok :=
  ⟨⟨by show (0 : Int) ≤ 5; decide, by show (5 : Int) < 256; decide⟩, by show i64 0; unfold i64; decide, by show i64 0; unfold i64; decide, by show i64 0; unfold i64; decide, hn, by show (0 : Int) ≤ 0; decide, by show (0 : Int) < 256; decide⟩

/-- A crash may be. -/
theorem crash_may {c : Cfg} {d : Dv} {l : List See} {n : Int} (hr : repE c d l = 0) : doE c d l ⟨5, 0, 0, 0, n, 0⟩ = 0 ↔ 0 ≤ n ∧ n ≤ writesN l := by
  have hm : mayH d l ⟨5, 0, 0, 0, n, 0⟩ = decide (0 ≤ n ∧ n ≤ writesN l) := by unfold mayH; rw [if_pos rfl]
  constructor
  · intro he
    have := (doE_zero he).2.1
    rw [hm] at this
    exact of_decide_eq_true this
  · intro h
    exact doE_of hr (by rw [hm]; exact decide_eq_true h)

theorem c_HarmCrashes {c : Cfg} {a l : Value} {d : Dv} {ss : List See} {n : Int} (ha : Sl rBys H A a d) (hl : Sl rSee H B l ss) (hs : SeesIn ss) (hn : i64 n) (hQ : ∀ H', G H H' → Q (.bool true) H') :
    callV Try.prog (fnV fn_law13_HarmCrashes) [.agg (cCfg c).toArray, .agg #[a], l, .int .i64 n] H Q := by
  apply S_law13_HarmCrashes_of
  unfold S_law13_HarmCrashes
  have ha := ha.old
  have hl := hl.old
  refine newT_of fun H1 g1 s1 => newT_of fun H2 g2 s2 => c_law13_alive fun H3 g3 => ?_
  have gg := (g1.trans g2).trans g3
  refine join_of (fun s H' => G H H' ∧ ∃ b, s = [[.bool b]] ∧ (b = false → Small d ∧ ss.length ≤ 2000)) (fun K hK => ?_) ?_
  · refine c_ref12_Great (ha.g gg) fun b H4 hb g4 => ?_
    have g := gg.trans g4
    cases b with
    | true => exact hK _ _ ⟨g, true, rfl, fun h => by cases h⟩
    | false =>
      refine c_ref12_GreatSees (hl.g g) fun b2 hb2 => ?_
      cases b2 with
      | true => exact hK _ _ ⟨g, true, rfl, fun h => by cases h⟩
      | false =>
        try simp only [sv_cons, sv_cons1, sc_cons, sc_cons1, asB_bool, ifB_true, ifB_false, un_not, bin_lss, bin_leq, bin_gtr, bin_geq, bin_eql, bin_neq, bin_add, bin_sub, bin_mul, ok_int, ok_bool, ok_slice, ok_str, ok_ptr, ok_map, ok_func, ok_iface, ok_nil, List.all_cons, List.all_nil, Bool.and_true, Bool.true_and, seg, setSeg, List.drop_succ_cons, List.drop_zero, List.take_succ_cons, List.take_zero, List.cons_append, List.nil_append, List.append_nil, List.length_cons, List.length_nil, List.drop_nil, List.size_toArray, Nat.reduceAdd, Nat.reduceLeDiff, Nat.reduceBEq, Nat.zero_add, Nat.le_refl, decide_true, mkV, List.headD_cons, cellsV, w_fldV, w_ext, w_fldP, List.getElem?_toArray, List.getElem?_cons_zero, List.getElem?_cons_succ, beq_self_eq_true, selV]
        exact hK _ _ ⟨g, false, rfl, fun h => ⟨hb rfl, hb2 rfl⟩⟩
  rintro s H4 ⟨g, b, rfl, hsm⟩
  cases b with
  | true => exact hQ _ g
  | false =>
  obtain ⟨hsmall, hsl⟩ := hsm rfl
  have hmid := hsmall.mid
  have hso : SeesOk ss := ⟨by omega, hs.r64⟩
  have hw0 : writesN ss ≤ ss.length := List.countP_le_length
  try simp only [sv_cons, sv_cons1, sc_cons, sc_cons1, asB_bool, ifB_true, ifB_false, un_not, bin_lss, bin_leq, bin_gtr, bin_geq, bin_eql, bin_neq, bin_add, bin_sub, bin_mul, ok_int, ok_bool, ok_slice, ok_str, ok_ptr, ok_map, ok_func, ok_iface, ok_nil, List.all_cons, List.all_nil, Bool.and_true, Bool.true_and, seg, setSeg, List.drop_succ_cons, List.drop_zero, List.take_succ_cons, List.take_zero, List.cons_append, List.nil_append, List.append_nil, List.length_cons, List.length_nil, List.drop_nil, List.size_toArray, Nat.reduceAdd, Nat.reduceLeDiff, Nat.reduceBEq, Nat.zero_add, Nat.le_refl, decide_true, mkV, List.headD_cons, cellsV, w_fldV, w_ext, w_fldP, List.getElem?_toArray, List.getElem?_cons_zero, List.getElem?_cons_succ, beq_self_eq_true, selV]
  refine c_dev_New fun v5 H5 hv5 g5 => ?_
  try simp only [sv_cons, sv_cons1, sc_cons, sc_cons1, asB_bool, ifB_true, ifB_false, un_not, bin_lss, bin_leq, bin_gtr, bin_geq, bin_eql, bin_neq, bin_add, bin_sub, bin_mul, ok_int, ok_bool, ok_slice, ok_str, ok_ptr, ok_map, ok_func, ok_iface, ok_nil, List.all_cons, List.all_nil, Bool.and_true, Bool.true_and, seg, setSeg, List.drop_succ_cons, List.drop_zero, List.take_succ_cons, List.take_zero, List.cons_append, List.nil_append, List.append_nil, List.length_cons, List.length_nil, List.drop_nil, List.size_toArray, Nat.reduceAdd, Nat.reduceLeDiff, Nat.reduceBEq, Nat.zero_add, Nat.le_refl, decide_true, mkV, List.headD_cons, cellsV, w_fldV, w_ext, w_fldP, List.getElem?_toArray, List.getElem?_cons_zero, List.getElem?_cons_succ, beq_self_eq_true, selV]
  refine newT_of fun H6 g6 _ => ?_
  have g := (g.trans g5).trans g6
  try simp only [sv_cons, sv_cons1, sc_cons, sc_cons1, asB_bool, ifB_true, ifB_false, un_not, bin_lss, bin_leq, bin_gtr, bin_geq, bin_eql, bin_neq, bin_add, bin_sub, bin_mul, ok_int, ok_bool, ok_slice, ok_str, ok_ptr, ok_map, ok_func, ok_iface, ok_nil, List.all_cons, List.all_nil, Bool.and_true, Bool.true_and, seg, setSeg, List.drop_succ_cons, List.drop_zero, List.take_succ_cons, List.take_zero, List.cons_append, List.nil_append, List.append_nil, List.length_cons, List.length_nil, List.drop_nil, List.size_toArray, Nat.reduceAdd, Nat.reduceLeDiff, Nat.reduceBEq, Nat.zero_add, Nat.le_refl, decide_true, mkV, List.headD_cons, cellsV, w_fldV, w_ext, w_fldP, List.getElem?_toArray, List.getElem?_cons_zero, List.getElem?_cons_succ, beq_self_eq_true, selV, hv5.okcv]
  refine c_dev_Replay (hv5.g g6) (hl.g g) mid_blank13 hso fun v7 O7 F7 H7 hx7 g7 => ?_
  try simp only [sv_cons, sv_cons1, sc_cons, sc_cons1, asB_bool, ifB_true, ifB_false, un_not, bin_lss, bin_leq, bin_gtr, bin_geq, bin_eql, bin_neq, bin_add, bin_sub, bin_mul, ok_int, ok_bool, ok_slice, ok_str, ok_ptr, ok_map, ok_func, ok_iface, ok_nil, List.all_cons, List.all_nil, Bool.and_true, Bool.true_and, seg, setSeg, List.drop_succ_cons, List.drop_zero, List.take_succ_cons, List.take_zero, List.cons_append, List.nil_append, List.append_nil, List.length_cons, List.length_nil, List.drop_nil, List.size_toArray, Nat.reduceAdd, Nat.reduceLeDiff, Nat.reduceBEq, Nat.zero_add, Nat.le_refl, decide_true, mkV, List.headD_cons, cellsV, w_fldV, w_ext, w_fldP, List.getElem?_toArray, List.getElem?_cons_zero, List.getElem?_cons_succ, beq_self_eq_true, selV]
  refine newT_of fun H8 g8 _ => ?_
  have g := (g.trans g7).trans g8
  have hf := (hx7.g g8).sl
  try simp only [sv_cons, sv_cons1, sc_cons, sc_cons1, asB_bool, ifB_true, ifB_false, un_not, bin_lss, bin_leq, bin_gtr, bin_geq, bin_eql, bin_neq, bin_add, bin_sub, bin_mul, ok_int, ok_bool, ok_slice, ok_str, ok_ptr, ok_map, ok_func, ok_iface, ok_nil, List.all_cons, List.all_nil, Bool.and_true, Bool.true_and, seg, setSeg, List.drop_succ_cons, List.drop_zero, List.take_succ_cons, List.take_zero, List.cons_append, List.nil_append, List.append_nil, List.length_cons, List.length_nil, List.drop_nil, List.size_toArray, Nat.reduceAdd, Nat.reduceLeDiff, Nat.reduceBEq, Nat.zero_add, Nat.le_refl, decide_true, mkV, List.headD_cons, cellsV, w_fldV, w_ext, w_fldP, List.getElem?_toArray, List.getElem?_cons_zero, List.getElem?_cons_succ, beq_self_eq_true, selV, hx7.dv.okcv]
  refine c_ref13_Writes (hl.g g) (by omega) ?_
  try simp only [sv_cons, sv_cons1, sc_cons, sc_cons1, asB_bool, ifB_true, ifB_false, un_not, bin_lss, bin_leq, bin_gtr, bin_geq, bin_eql, bin_neq, bin_add, bin_sub, bin_mul, ok_int, ok_bool, ok_slice, ok_str, ok_ptr, ok_map, ok_func, ok_iface, ok_nil, List.all_cons, List.all_nil, Bool.and_true, Bool.true_and, seg, setSeg, List.drop_succ_cons, List.drop_zero, List.take_succ_cons, List.take_zero, List.cons_append, List.nil_append, List.append_nil, List.length_cons, List.length_nil, List.drop_nil, List.size_toArray, Nat.reduceAdd, Nat.reduceLeDiff, Nat.reduceBEq, Nat.zero_add, Nat.le_refl, decide_true, mkV, List.headD_cons, cellsV, w_fldV, w_ext, w_fldP, List.getElem?_toArray, List.getElem?_cons_zero, List.getElem?_cons_succ, beq_self_eq_true, selV]
  refine c_harm_Do (h := ⟨5, 0, 0, 0, writesN ss, 0⟩) (ha.g g) (hl.g g) hmid hso (by omega) (crash_ok (by unfold i64; omega)) fun v9 O9 F9 H9 hx9 g9 => ?_
  try simp only [sv_cons, sv_cons1, sc_cons, sc_cons1, asB_bool, ifB_true, ifB_false, un_not, bin_lss, bin_leq, bin_gtr, bin_geq, bin_eql, bin_neq, bin_add, bin_sub, bin_mul, ok_int, ok_bool, ok_slice, ok_str, ok_ptr, ok_map, ok_func, ok_iface, ok_nil, List.all_cons, List.all_nil, Bool.and_true, Bool.true_and, seg, setSeg, List.drop_succ_cons, List.drop_zero, List.take_succ_cons, List.take_zero, List.cons_append, List.nil_append, List.append_nil, List.length_cons, List.length_nil, List.drop_nil, List.size_toArray, Nat.reduceAdd, Nat.reduceLeDiff, Nat.reduceBEq, Nat.zero_add, Nat.le_refl, decide_true, mkV, List.headD_cons, cellsV, w_fldV, w_ext, w_fldP, List.getElem?_toArray, List.getElem?_cons_zero, List.getElem?_cons_succ, beq_self_eq_true, selV]
  refine newT_of fun H10 g10 _ => ?_
  have g := (g.trans g9).trans g10
  have hf := hf.g (g9.trans g10)
  have hx := (hx9.g g10).sl
  try simp only [sv_cons, sv_cons1, sc_cons, sc_cons1, asB_bool, ifB_true, ifB_false, un_not, bin_lss, bin_leq, bin_gtr, bin_geq, bin_eql, bin_neq, bin_add, bin_sub, bin_mul, ok_int, ok_bool, ok_slice, ok_str, ok_ptr, ok_map, ok_func, ok_iface, ok_nil, List.all_cons, List.all_nil, Bool.and_true, Bool.true_and, seg, setSeg, List.drop_succ_cons, List.drop_zero, List.take_succ_cons, List.take_zero, List.cons_append, List.nil_append, List.append_nil, List.length_cons, List.length_nil, List.drop_nil, List.size_toArray, Nat.reduceAdd, Nat.reduceLeDiff, Nat.reduceBEq, Nat.zero_add, Nat.le_refl, decide_true, mkV, List.headD_cons, cellsV, w_fldV, w_ext, w_fldP, List.getElem?_toArray, List.getElem?_cons_zero, List.getElem?_cons_succ, beq_self_eq_true, selV, hx9.dv.okcv]
  refine c_harm_Do (h := ⟨5, 0, 0, 0, n, 0⟩) (ha.g g) (hl.g g) hmid hso (by omega) (crash_ok hn) fun v11 O11 F11 H11 hx11 g11 => ?_
  try simp only [sv_cons, sv_cons1, sc_cons, sc_cons1, asB_bool, ifB_true, ifB_false, un_not, bin_lss, bin_leq, bin_gtr, bin_geq, bin_eql, bin_neq, bin_add, bin_sub, bin_mul, ok_int, ok_bool, ok_slice, ok_str, ok_ptr, ok_map, ok_func, ok_iface, ok_nil, List.all_cons, List.all_nil, Bool.and_true, Bool.true_and, seg, setSeg, List.drop_succ_cons, List.drop_zero, List.take_succ_cons, List.take_zero, List.cons_append, List.nil_append, List.append_nil, List.length_cons, List.length_nil, List.drop_nil, List.size_toArray, Nat.reduceAdd, Nat.reduceLeDiff, Nat.reduceBEq, Nat.zero_add, Nat.le_refl, decide_true, mkV, List.headD_cons, cellsV, w_fldV, w_ext, w_fldP, List.getElem?_toArray, List.getElem?_cons_zero, List.getElem?_cons_succ, beq_self_eq_true, selV]
  refine newT_of fun H12 g12 _ => ?_
  have g := (g.trans g11).trans g12
  have hf := hf.g (g11.trans g12)
  have hx := hx.g (g11.trans g12)
  have hy := (hx11.g g12).sl
  try simp only [sv_cons, sv_cons1, sc_cons, sc_cons1, asB_bool, ifB_true, ifB_false, un_not, bin_lss, bin_leq, bin_gtr, bin_geq, bin_eql, bin_neq, bin_add, bin_sub, bin_mul, ok_int, ok_bool, ok_slice, ok_str, ok_ptr, ok_map, ok_func, ok_iface, ok_nil, List.all_cons, List.all_nil, Bool.and_true, Bool.true_and, seg, setSeg, List.drop_succ_cons, List.drop_zero, List.take_succ_cons, List.take_zero, List.cons_append, List.nil_append, List.append_nil, List.length_cons, List.length_nil, List.drop_nil, List.size_toArray, Nat.reduceAdd, Nat.reduceLeDiff, Nat.reduceBEq, Nat.zero_add, Nat.le_refl, decide_true, mkV, List.headD_cons, cellsV, w_fldV, w_ext, w_fldP, List.getElem?_toArray, List.getElem?_cons_zero, List.getElem?_cons_succ, beq_self_eq_true, selV, hx11.dv.okcv]
  -- what is so where all may be
  refine join_of (fun s H' => G H12 H' ∧ s = [[.bool (decide (c.err ≠ 0 ∨ repE c (if c.may then blankD c else []) ss ≠ 0 ∨ may c d = false))]]) (fun K hK => ?_) ?_
  · refine ifD_of (fun c1 => hK _ _ ⟨G.fr (Fr.refl _ _), jb_t (.inl c1)⟩) (fun c1 => ?_)
    refine ifD_of (fun c2 => hK _ _ ⟨G.fr (Fr.refl _ _), jb_t (.inr (.inl c2))⟩) (fun c2 => ?_)
    refine c_dev_Check (ha.g g) hmid fun H13 g13 => ?_
    cases hm : may c d
    · try simp only [sv_cons, sv_cons1, sc_cons, sc_cons1, asB_bool, ifB_true, ifB_false, un_not, bin_lss, bin_leq, bin_gtr, bin_geq, bin_eql, bin_neq, bin_add, bin_sub, bin_mul, ok_int, ok_bool, ok_slice, ok_str, ok_ptr, ok_map, ok_func, ok_iface, ok_nil, List.all_cons, List.all_nil, Bool.and_true, Bool.true_and, seg, setSeg, List.drop_succ_cons, List.drop_zero, List.take_succ_cons, List.take_zero, List.cons_append, List.nil_append, List.append_nil, List.length_cons, List.length_nil, List.drop_nil, List.size_toArray, Nat.reduceAdd, Nat.reduceLeDiff, Nat.reduceBEq, Nat.zero_add, Nat.le_refl, decide_true, mkV, List.headD_cons, cellsV, w_fldV, w_ext, w_fldP, List.getElem?_toArray, List.getElem?_cons_zero, List.getElem?_cons_succ, beq_self_eq_true, selV]
      exact hK _ _ ⟨g13, by rw [hm]; simp⟩
    · try simp only [sv_cons, sv_cons1, sc_cons, sc_cons1, asB_bool, ifB_true, ifB_false, un_not, bin_lss, bin_leq, bin_gtr, bin_geq, bin_eql, bin_neq, bin_add, bin_sub, bin_mul, ok_int, ok_bool, ok_slice, ok_str, ok_ptr, ok_map, ok_func, ok_iface, ok_nil, List.all_cons, List.all_nil, Bool.and_true, Bool.true_and, seg, setSeg, List.drop_succ_cons, List.drop_zero, List.take_succ_cons, List.take_zero, List.cons_append, List.nil_append, List.append_nil, List.length_cons, List.length_nil, List.drop_nil, List.size_toArray, Nat.reduceAdd, Nat.reduceLeDiff, Nat.reduceBEq, Nat.zero_add, Nat.le_refl, decide_true, mkV, List.headD_cons, cellsV, w_fldV, w_ext, w_fldP, List.getElem?_toArray, List.getElem?_cons_zero, List.getElem?_cons_succ, beq_self_eq_true, selV]
      exact hK _ _ ⟨g13, by rw [hm]; simp [c1, c2]⟩
  rintro s H13 ⟨g13, rfl⟩
  have g := g.trans g13
  have hf := hf.g g13
  have hx := hx.g g13
  have hy := hy.g g13
  try simp only [sv_cons, sv_cons1, sc_cons, sc_cons1, asB_bool, ifB_true, ifB_false, un_not, bin_lss, bin_leq, bin_gtr, bin_geq, bin_eql, bin_neq, bin_add, bin_sub, bin_mul, ok_int, ok_bool, ok_slice, ok_str, ok_ptr, ok_map, ok_func, ok_iface, ok_nil, List.all_cons, List.all_nil, Bool.and_true, Bool.true_and, seg, setSeg, List.drop_succ_cons, List.drop_zero, List.take_succ_cons, List.take_zero, List.cons_append, List.nil_append, List.append_nil, List.length_cons, List.length_nil, List.drop_nil, List.size_toArray, Nat.reduceAdd, Nat.reduceLeDiff, Nat.reduceBEq, Nat.zero_add, Nat.le_refl, decide_true, mkV, List.headD_cons, cellsV, w_fldV, w_ext, w_fldP, List.getElem?_toArray, List.getElem?_cons_zero, List.getElem?_cons_succ, beq_self_eq_true, selV]
  refine ifD_of (fun hbad => ?_) (fun hgood => ?_)
  · refine join_of (fun s H' => H' = H13 ∧ s = [[.bool true]]) (fun K hK => ?_) ?_
    · try simp only [sv_cons, sv_cons1, sc_cons, sc_cons1, asB_bool, ifB_true, ifB_false, un_not, bin_lss, bin_leq, bin_gtr, bin_geq, bin_eql, bin_neq, bin_add, bin_sub, bin_mul, ok_int, ok_bool, ok_slice, ok_str, ok_ptr, ok_map, ok_func, ok_iface, ok_nil, List.all_cons, List.all_nil, Bool.and_true, Bool.true_and, seg, setSeg, List.drop_succ_cons, List.drop_zero, List.take_succ_cons, List.take_zero, List.cons_append, List.nil_append, List.append_nil, List.length_cons, List.length_nil, List.drop_nil, List.size_toArray, Nat.reduceAdd, Nat.reduceLeDiff, Nat.reduceBEq, Nat.zero_add, Nat.le_refl, decide_true, mkV, List.headD_cons, cellsV, w_fldV, w_ext, w_fldP, List.getElem?_toArray, List.getElem?_cons_zero, List.getElem?_cons_succ, beq_self_eq_true, selV]
      refine hK _ _ ⟨rfl, ?_⟩
      have : doE c d ss ⟨5, 0, 0, 0, writesN ss, 0⟩ ≠ 0 := fun he => by
        obtain ⟨hr, hm, _⟩ := doE_zero he
        obtain ⟨hmay, hok⟩ := rep_zero hr
        have hcm := may_may hmay
        rcases hbad with h1 | h1 | h1
        · exact h1 (by unfold Cfg.err; rw [if_pos hcm])
        · rw [if_pos hcm] at h1
          exact h1 (rep_of (may_blank hcm) fun s hs => seeOk_shape hmay (may_blank hcm) (hok s hs))
        · rw [hmay] at h1; cases h1
      simp [this]
    rintro s H' ⟨rfl, rfl⟩
    try simp only [sv_cons, sv_cons1, sc_cons, sc_cons1, asB_bool, ifB_true, ifB_false, un_not, bin_lss, bin_leq, bin_gtr, bin_geq, bin_eql, bin_neq, bin_add, bin_sub, bin_mul, ok_int, ok_bool, ok_slice, ok_str, ok_ptr, ok_map, ok_func, ok_iface, ok_nil, List.all_cons, List.all_nil, Bool.and_true, Bool.true_and, seg, setSeg, List.drop_succ_cons, List.drop_zero, List.take_succ_cons, List.take_zero, List.cons_append, List.nil_append, List.append_nil, List.length_cons, List.length_nil, List.drop_nil, List.size_toArray, Nat.reduceAdd, Nat.reduceLeDiff, Nat.reduceBEq, Nat.zero_add, Nat.le_refl, decide_true, mkV, List.headD_cons, cellsV, w_fldV, w_ext, w_fldP, List.getElem?_toArray, List.getElem?_cons_zero, List.getElem?_cons_succ, beq_self_eq_true, selV]
    exact hQ _ g
  have hcm : c.may := err_zero (Classical.byContradiction fun h => hgood (.inl h))
  rw [if_pos hcm] at hf
  have hrb : repE c (blankD c) ss = 0 := Classical.byContradiction fun h => hgood (.inr (.inl (by rw [if_pos hcm]; exact h)))
  have hmay : may c d = true := by
    cases hm : may c d
    · exact absurd (.inr (.inr hm)) hgood
    · rfl
  have hmb := may_blank hcm
  obtain ⟨_, hokb⟩ := rep_zero hrb
  have hr : repE c d ss = 0 := rep_of hmay fun s hs => seeOk_shape hmb hmay (hokb s hs)
  have eA : doE c d ss ⟨5, 0, 0, 0, writesN ss, 0⟩ = 0 := (crash_may hr).2 ⟨by omega, by omega⟩
  have hrng : ∀ s ∈ ss, Go.Hd.Rng (blankD c) s := fun s hs => (seeOk_iff.1 (hokb s hs)).2.1
  rw [hrb, if_pos rfl] at hf
  have hby : ∀ s ∈ ss, s.bytes.length ≤ 1000000 := fun s hm => seeOk_len (mid_blank' hcm) (hokb s hm)
  refine join_of (fun s H' => G H13 H' ∧ s = [[.bool false]]) (fun K hK => ?_) ?_
  · rw [eA]
    try simp only [sv_cons, sv_cons1, sc_cons, sc_cons1, asB_bool, ifB_true, ifB_false, un_not, bin_lss, bin_leq, bin_gtr, bin_geq, bin_eql, bin_neq, bin_add, bin_sub, bin_mul, ok_int, ok_bool, ok_slice, ok_str, ok_ptr, ok_map, ok_func, ok_iface, ok_nil, List.all_cons, List.all_nil, Bool.and_true, Bool.true_and, seg, setSeg, List.drop_succ_cons, List.drop_zero, List.take_succ_cons, List.take_zero, List.cons_append, List.nil_append, List.append_nil, List.length_cons, List.length_nil, List.drop_nil, List.size_toArray, Nat.reduceAdd, Nat.reduceLeDiff, Nat.reduceBEq, Nat.zero_add, Nat.le_refl, decide_true, mkV, List.headD_cons, cellsV, w_fldV, w_ext, w_fldP, List.getElem?_toArray, List.getElem?_cons_zero, List.getElem?_cons_succ, beq_self_eq_true, selV]
    rw [(doE_zero eA).2.2] at hx
    have eX : doneH c d ss ⟨5, 0, 0, 0, writesN ss, 0⟩ = behind (blankD c) ss := by
      unfold doneH
      rw [if_pos rfl, Int.toNat_natCast]
      exact Go.Hd.behind_first
    rw [eX] at hx
    have hmb2 := mid_behind (mid_blank' hcm) hby
    refine c_ref12_Same hx hf (by have := hmb2.1; omega) (fun x hx => by have := (hmb2.2 x hx).1; omega) fun H14 g14 => ?_
    try rw [decide_eq_true rfl]
    try simp only [sv_cons, sv_cons1, sc_cons, sc_cons1, asB_bool, ifB_true, ifB_false, un_not, bin_lss, bin_leq, bin_gtr, bin_geq, bin_eql, bin_neq, bin_add, bin_sub, bin_mul, ok_int, ok_bool, ok_slice, ok_str, ok_ptr, ok_map, ok_func, ok_iface, ok_nil, List.all_cons, List.all_nil, Bool.and_true, Bool.true_and, seg, setSeg, List.drop_succ_cons, List.drop_zero, List.take_succ_cons, List.take_zero, List.cons_append, List.nil_append, List.append_nil, List.length_cons, List.length_nil, List.drop_nil, List.size_toArray, Nat.reduceAdd, Nat.reduceLeDiff, Nat.reduceBEq, Nat.zero_add, Nat.le_refl, decide_true, mkV, List.headD_cons, cellsV, w_fldV, w_ext, w_fldP, List.getElem?_toArray, List.getElem?_cons_zero, List.getElem?_cons_succ, beq_self_eq_true, selV, Bool.not_true]
    have hat := crash_may (n := n) hr
    refine ifD_of (fun c1 => ?_) (fun c1 => ?_)
    · rw [w_boolneq]
      refine hK _ _ ⟨g14, ?_⟩
      by_cases h2 : n ≤ writesN ss
      · rw [hat.2 ⟨c1, h2⟩]; simp [h2]
      · have : doE c d ss ⟨5, 0, 0, 0, n, 0⟩ ≠ 0 := fun he => h2 (hat.1 he).2
        simp [h2, this]
    · rw [w_boolneq]
      refine hK _ _ ⟨g14, ?_⟩
      have : doE c d ss ⟨5, 0, 0, 0, n, 0⟩ ≠ 0 := fun he => c1 (hat.1 he).1
      simp [this]
  rintro s H14 ⟨g14, rfl⟩
  have g := g.trans g14
  have hy := hy.g g14
  try simp only [sv_cons, sv_cons1, sc_cons, sc_cons1, asB_bool, ifB_true, ifB_false, un_not, bin_lss, bin_leq, bin_gtr, bin_geq, bin_eql, bin_neq, bin_add, bin_sub, bin_mul, ok_int, ok_bool, ok_slice, ok_str, ok_ptr, ok_map, ok_func, ok_iface, ok_nil, List.all_cons, List.all_nil, Bool.and_true, Bool.true_and, seg, setSeg, List.drop_succ_cons, List.drop_zero, List.take_succ_cons, List.take_zero, List.cons_append, List.nil_append, List.append_nil, List.length_cons, List.length_nil, List.drop_nil, List.size_toArray, Nat.reduceAdd, Nat.reduceLeDiff, Nat.reduceBEq, Nat.zero_add, Nat.le_refl, decide_true, mkV, List.headD_cons, cellsV, w_fldV, w_ext, w_fldP, List.getElem?_toArray, List.getElem?_cons_zero, List.getElem?_cons_succ, beq_self_eq_true, selV]
  -- the device behind the crash
  obtain ⟨Y, hYe⟩ : ∃ Y, doD c d ss ⟨5, 0, 0, 0, n, 0⟩ = Y := ⟨_, rfl⟩
  rw [hYe] at hy
  have hYm : Mid Y := by rw [← hYe]; exact mid_doD hmid
  have hYrng : doE c d ss ⟨5, 0, 0, 0, n, 0⟩ = 0 → ∀ s ∈ ss, Go.Hd.Rng Y s := fun he s hs => by
    rw [(doE_zero he).2.2] at hYe
    rw [← hYe]
    exact (hrng s hs).like (Go.Hd.like_behind fun s' h' => hrng s' (firstW_sub s' h'))
  have hYhas : ∀ i k : Int, 0 ≤ i → 1 ≤ k → (∃ m, bk Y i k = List.replicate m 0) ∨ bk Y i k ∈ versL ss i k := fun i k hi hk => by
    by_cases he : doE c d ss ⟨5, 0, 0, 0, n, 0⟩ = 0
    · rw [(doE_zero he).2.2] at hYe
      rw [← hYe]
      rcases Go.Hd.behind_has (d := blankD c) (ss := firstW ss n.toNat) hi hk (fun s' h' => hrng s' (firstW_sub s' h')) with h | h
      · left
        obtain ⟨m, hm⟩ := Go.Hd.blank_bk (c := c) (i := i) (k := k)
        exact ⟨m, by show bk (behind (blankD c) (firstW ss n.toNat)) i k = _; rw [h, hm]⟩
      · exact .inr (Go.Hd.vers_first h)
    · have : Y = [] := by rw [← hYe]; unfold doD; rw [if_neg he]
      subst this
      exact .inl ⟨0, rfl⟩
  have hYl : Y.length ≤ 1000 := hYm.1
  refine loop_up Y.length (fun i s H' => G H14 H' ∧ s = [[.int .i64 (Go.Hd.tot ss Y i : Int)], [.int .i64 (i : Int)]]) ⟨G.fr (Fr.refl _ _), rfl⟩ ?_
  rintro i s H15 K hi ⟨g15, rfl⟩ hK
  refine (hy.g g15).len ?_
  try simp only [sv_cons, sv_cons1, sc_cons, sc_cons1, asB_bool, ifB_true, ifB_false, un_not, bin_lss, bin_leq, bin_gtr, bin_geq, bin_eql, bin_neq, bin_add, bin_sub, bin_mul, ok_int, ok_bool, ok_slice, ok_str, ok_ptr, ok_map, ok_func, ok_iface, ok_nil, List.all_cons, List.all_nil, Bool.and_true, Bool.true_and, seg, setSeg, List.drop_succ_cons, List.drop_zero, List.take_succ_cons, List.take_zero, List.cons_append, List.nil_append, List.append_nil, List.length_cons, List.length_nil, List.drop_nil, List.size_toArray, Nat.reduceAdd, Nat.reduceLeDiff, Nat.reduceBEq, Nat.zero_add, Nat.le_refl, decide_true, mkV, List.headD_cons, cellsV, w_fldV, w_ext, w_fldP, List.getElem?_toArray, List.getElem?_cons_zero, List.getElem?_cons_succ, beq_self_eq_true, selV]
  refine ifD_of (fun c1 => ?_) (fun c1 => ?_)
  rotate_left
  · have hie : i = Y.length := by omega
    subst hie
    refine join_of (fun s H' => H' = H15 ∧ s = [[.bool true]]) (fun K hK => ?_) ?_
    · refine ifD_of (fun _ => hK _ _ ⟨rfl, rfl⟩) (fun he => ?_)
      have he := Decidable.not_not.1 he
      refine hK _ _ ⟨rfl, ?_⟩
      rw [Go.Hd.tot_all (hYrng he)]
      simp
    rintro s H' ⟨rfl, rfl⟩
    try simp only [sv_cons, sv_cons1, sc_cons, sc_cons1, asB_bool, ifB_true, ifB_false, un_not, bin_lss, bin_leq, bin_gtr, bin_geq, bin_eql, bin_neq, bin_add, bin_sub, bin_mul, ok_int, ok_bool, ok_slice, ok_str, ok_ptr, ok_map, ok_func, ok_iface, ok_nil, List.all_cons, List.all_nil, Bool.and_true, Bool.true_and, seg, setSeg, List.drop_succ_cons, List.drop_zero, List.take_succ_cons, List.take_zero, List.cons_append, List.nil_append, List.append_nil, List.length_cons, List.length_nil, List.drop_nil, List.size_toArray, Nat.reduceAdd, Nat.reduceLeDiff, Nat.reduceBEq, Nat.zero_add, Nat.le_refl, decide_true, mkV, List.headD_cons, cellsV, w_fldV, w_ext, w_fldP, List.getElem?_toArray, List.getElem?_cons_zero, List.getElem?_cons_succ, beq_self_eq_true, selV]
    exact hQ _ (g.trans g15)
  have hlt : i < Y.length := by omega
  have hyi : Y[i]? = some Y[i] := List.getElem?_eq_getElem hlt
  have hlY : lvlOf Y (i : Int) = Y[i] := by unfold lvlOf; rw [List.getD_eq_getElem?_getD, Int.toNat_natCast, hyi]; rfl
  obtain ⟨yi, hyie⟩ : ∃ yi, Y[i] = yi := ⟨_, rfl⟩
  rw [hyie] at hyi hlY
  have hmi := hYm.2 yi (hyie ▸ List.getElem_mem hlt)
  have htl := Go.Hd.tot_le ss Y hYm i
  have htl2 : Go.Hd.tot ss Y i ≤ 2000000000 := by
    have h1 : 1000 * ss.length ≤ 2000000 := by omega
    have h2 := Nat.mul_le_mul (Nat.le_of_lt hlt) h1
    have h3 := Nat.mul_le_mul_right 2000000 hYl
    omega
  refine loop_up yi.length (fun k s H' => G H15 H' ∧ s = [[.int .i64 ((Go.Hd.tot ss Y i + Go.Hd.cnt ss i k : Nat) : Int)], [.int .i64 (k : Int)]]) ⟨G.fr (Fr.refl _ _), rfl⟩ ?_
  rintro k s H16 K2 hki ⟨g16, rfl⟩ hK2
  have gy := g15.trans g16
  refine (hy.g gy).getS hyi fun u hu => hu.len ?_
  try simp only [sv_cons, sv_cons1, sc_cons, sc_cons1, asB_bool, ifB_true, ifB_false, un_not, bin_lss, bin_leq, bin_gtr, bin_geq, bin_eql, bin_neq, bin_add, bin_sub, bin_mul, ok_int, ok_bool, ok_slice, ok_str, ok_ptr, ok_map, ok_func, ok_iface, ok_nil, List.all_cons, List.all_nil, Bool.and_true, Bool.true_and, seg, setSeg, List.drop_succ_cons, List.drop_zero, List.take_succ_cons, List.take_zero, List.cons_append, List.nil_append, List.append_nil, List.length_cons, List.length_nil, List.drop_nil, List.size_toArray, Nat.reduceAdd, Nat.reduceLeDiff, Nat.reduceBEq, Nat.zero_add, Nat.le_refl, decide_true, mkV, List.headD_cons, cellsV, w_fldV, w_ext, w_fldP, List.getElem?_toArray, List.getElem?_cons_zero, List.getElem?_cons_succ, beq_self_eq_true, selV]
  refine ifD_of (fun c2 => ?_) (fun c2 => ?_)
  rotate_left
  · have hke : k = yi.length := by omega
    subst hke
    rw [wrap_i64 (by unfold i64; omega)]
    refine hK _ _ hlt ⟨gy, ?_⟩
    show _ = [[Value.int .i64 ((Go.Hd.tot ss Y i + Go.Hd.cnt ss i (lvlOf Y (i : Int)).length : Nat) : Int)], [Value.int .i64 ((i + 1 : Nat) : Int)]]
    rw [hlY]
    rfl
  have hkl : k < yi.length := by omega
  have hyk : yi[k]? = some yi[k] := List.getElem?_eq_getElem hkl
  have hcl := Go.Hd.cnt_le ss i k
  have hcl2 : Go.Hd.cnt ss i k ≤ 2000000 := by
    have h1 := Nat.mul_le_mul (show k ≤ 1000 by omega) hsl
    omega
  have hbkY : bk Y (i : Int) ((k : Int) + 1) = yi[k] := by
    unfold bk
    rw [hlY, show ((k : Int) + 1 - 1).toNat = k by omega, List.getD_eq_getElem?_getD, hyk]; rfl
  rw [wrap_i64 (by unfold i64; omega)]
  refine c_harm_Versions (hl.g (g.trans gy)) (by omega) hs.by_ fun w bw ws F H17 hcv => ?_
  have hvl := versL_len (l := ss) (level := (i : Int)) (b := (k : Int) + 1)
  have hwl := hcv.leaves.1
  have gy := gy.trans hcv.g
  refine hcv.own.len ?_
  try simp only [sv_cons, sv_cons1, sc_cons, sc_cons1, asB_bool, ifB_true, ifB_false, un_not, bin_lss, bin_leq, bin_gtr, bin_geq, bin_eql, bin_neq, bin_add, bin_sub, bin_mul, ok_int, ok_bool, ok_slice, ok_str, ok_ptr, ok_map, ok_func, ok_iface, ok_nil, List.all_cons, List.all_nil, Bool.and_true, Bool.true_and, seg, setSeg, List.drop_succ_cons, List.drop_zero, List.take_succ_cons, List.take_zero, List.cons_append, List.nil_append, List.append_nil, List.length_cons, List.length_nil, List.drop_nil, List.size_toArray, Nat.reduceAdd, Nat.reduceLeDiff, Nat.reduceBEq, Nat.zero_add, Nat.le_refl, decide_true, mkV, List.headD_cons, cellsV, w_fldV, w_ext, w_fldP, List.getElem?_toArray, List.getElem?_cons_zero, List.getElem?_cons_succ, beq_self_eq_true, selV]
  rw [hwl, wrap_i64 (by unfold i64; omega)]
  have hyg := hy.g gy
  refine hyg.atS hyi fun p1 w1 hp1 hw1 => hp1.load rfl ?_
  refine hw1.atS hyk fun p2 w2 hp2 hw2 => hp2.load rfl ?_
  try simp only [sv_cons, sv_cons1, sc_cons, sc_cons1, asB_bool, ifB_true, ifB_false, un_not, bin_lss, bin_leq, bin_gtr, bin_geq, bin_eql, bin_neq, bin_add, bin_sub, bin_mul, ok_int, ok_bool, ok_slice, ok_str, ok_ptr, ok_map, ok_func, ok_iface, ok_nil, List.all_cons, List.all_nil, Bool.and_true, Bool.true_and, seg, setSeg, List.drop_succ_cons, List.drop_zero, List.take_succ_cons, List.take_zero, List.cons_append, List.nil_append, List.append_nil, List.length_cons, List.length_nil, List.drop_nil, List.size_toArray, Nat.reduceAdd, Nat.reduceLeDiff, Nat.reduceBEq, Nat.zero_add, Nat.le_refl, decide_true, mkV, List.headD_cons, cellsV, w_fldV, w_ext, w_fldP, List.getElem?_toArray, List.getElem?_cons_zero, List.getElem?_cons_succ, beq_self_eq_true, selV]
  refine hyg.atS hyi fun p3 w3 hp3 hw3 => hp3.load rfl ?_
  refine hw3.atS hyk fun p4 w4 hp4 hw4 => hp4.load rfl ?_
  try simp only [sv_cons, sv_cons1, sc_cons, sc_cons1, asB_bool, ifB_true, ifB_false, un_not, bin_lss, bin_leq, bin_gtr, bin_geq, bin_eql, bin_neq, bin_add, bin_sub, bin_mul, ok_int, ok_bool, ok_slice, ok_str, ok_ptr, ok_map, ok_func, ok_iface, ok_nil, List.all_cons, List.all_nil, Bool.and_true, Bool.true_and, seg, setSeg, List.drop_succ_cons, List.drop_zero, List.take_succ_cons, List.take_zero, List.cons_append, List.nil_append, List.append_nil, List.length_cons, List.length_nil, List.drop_nil, List.size_toArray, Nat.reduceAdd, Nat.reduceLeDiff, Nat.reduceBEq, Nat.zero_add, Nat.le_refl, decide_true, mkV, List.headD_cons, cellsV, w_fldV, w_ext, w_fldP, List.getElem?_toArray, List.getElem?_cons_zero, List.getElem?_cons_succ, beq_self_eq_true, selV]
  refine hw4.len ?_
  have hbl : yi[k].length ≤ 1000000 := hmi.2 _ (List.getElem_mem hkl)
  refine mk_zero (R := rU8) (x := 0) (A := fun _ => False) ⟨rfl, trivial⟩ rfl (by omega) (by omega) (by omega) fun t H18 ht g18 s18 => ?_
  have gy := gy.trans g18
  refine ⟨(hp4.g g18).load rfl rfl, (hp3.g g18).load rfl rfl, (hp2.g g18).load rfl rfl, (hp1.g g18).load rfl rfl, ?_⟩
  refine c_ref01_Same (hw2.g g18) (ht.sl (A' := fun _ => True) (fun _ _ _ => trivial) fun _ _ => trivial) ⟨(hp4.g g18).load rfl rfl, (hp3.g g18).load rfl rfl, (hp1.g g18).load rfl rfl, ?_⟩
  have hvs : Sl rBy H18 (fun _ => True) w (versL ss i ((k : Int) + 1)) := by
    have := ((hcv.own.slF (A' := fun _ => True) fun k hk => trivial).join (B := F) (hcv.leaves.imp fun u x hl => hl.1))
    exact (this.mono fun y hy _ => trivial).g g18
  refine loop_up (versL ss i ((k : Int) + 1)).length (fun m s H' => H' = H18 ∧ s = [[.bool (decide (yi[k] = List.replicate yi[k].length 0) || ((versL ss i ((k : Int) + 1)).take m).contains yi[k])], [.int .i64 (m : Int)]]) ⟨rfl, by simp⟩ ?_
  rintro m s H19 K3 hmi2 ⟨rfl, rfl⟩ hK3
  refine hvs.len ?_
  try simp only [sv_cons, sv_cons1, sc_cons, sc_cons1, asB_bool, ifB_true, ifB_false, un_not, bin_lss, bin_leq, bin_gtr, bin_geq, bin_eql, bin_neq, bin_add, bin_sub, bin_mul, ok_int, ok_bool, ok_slice, ok_str, ok_ptr, ok_map, ok_func, ok_iface, ok_nil, List.all_cons, List.all_nil, Bool.and_true, Bool.true_and, seg, setSeg, List.drop_succ_cons, List.drop_zero, List.take_succ_cons, List.take_zero, List.cons_append, List.nil_append, List.append_nil, List.length_cons, List.length_nil, List.drop_nil, List.size_toArray, Nat.reduceAdd, Nat.reduceLeDiff, Nat.reduceBEq, Nat.zero_add, Nat.le_refl, decide_true, mkV, List.headD_cons, cellsV, w_fldV, w_ext, w_fldP, List.getElem?_toArray, List.getElem?_cons_zero, List.getElem?_cons_succ, beq_self_eq_true, selV]
  refine ifD_of (fun c3 => ?_) (fun c3 => ?_)
  · have hml : m < (versL ss i ((k : Int) + 1)).length := by omega
    have hvm : (versL ss i ((k : Int) + 1))[m]? = some (versL ss i ((k : Int) + 1))[m] := List.getElem?_eq_getElem hml
    have hct : ((versL ss i ((k : Int) + 1)).take (m + 1)).contains yi[k] = (((versL ss i ((k : Int) + 1)).take m).contains yi[k] || decide (yi[k] = (versL ss i ((k : Int) + 1))[m])) := by
      rw [show (versL ss i ((k : Int) + 1)).take (m + 1) = (versL ss i ((k : Int) + 1)).take m ++ [(versL ss i ((k : Int) + 1))[m]] from List.take_succ_eq_append_getElem hml]
      simp only [List.contains_eq_mem, List.mem_append, List.mem_singleton, Bool.decide_or]
    refine join_of (fun s H' => H' = H19 ∧ s = [[.bool (decide (yi[k] = List.replicate yi[k].length 0) || ((versL ss i ((k : Int) + 1)).take (m + 1)).contains yi[k])]]) (fun K4 hK4 => ?_) ?_
    · rw [hct] at hK4
      refine ifB_of (fun hb => hK4 _ _ ⟨rfl, ?_⟩) (fun hb => ?_)
      · rw [← Bool.or_assoc, hb, Bool.true_or]
      · refine (hyg.g g18).atS hyi fun p5 w5 hp5 hw5 => hp5.load rfl ?_
        refine hw5.getS hyk fun w6 hw6 => ?_
        refine hvs.getS hvm fun w7 hw7 => ?_
        refine c_ref01_Same hw6 hw7 ⟨hp5.load rfl rfl, hK4 _ _ ⟨rfl, ?_⟩⟩
        rw [← Bool.or_assoc, hb, Bool.false_or]
    rintro s H' ⟨rfl, rfl⟩
    try simp only [sv_cons, sv_cons1, sc_cons, sc_cons1, asB_bool, ifB_true, ifB_false, un_not, bin_lss, bin_leq, bin_gtr, bin_geq, bin_eql, bin_neq, bin_add, bin_sub, bin_mul, ok_int, ok_bool, ok_slice, ok_str, ok_ptr, ok_map, ok_func, ok_iface, ok_nil, List.all_cons, List.all_nil, Bool.and_true, Bool.true_and, seg, setSeg, List.drop_succ_cons, List.drop_zero, List.take_succ_cons, List.take_zero, List.cons_append, List.nil_append, List.append_nil, List.length_cons, List.length_nil, List.drop_nil, List.size_toArray, Nat.reduceAdd, Nat.reduceLeDiff, Nat.reduceBEq, Nat.zero_add, Nat.le_refl, decide_true, mkV, List.headD_cons, cellsV, w_fldV, w_ext, w_fldP, List.getElem?_toArray, List.getElem?_cons_zero, List.getElem?_cons_succ, beq_self_eq_true, selV]
    rw [wrap_i64 (by unfold i64; omega)]
    exact hK3 _ _ hml ⟨rfl, by simp⟩
  · have hme : m = (versL ss i ((k : Int) + 1)).length := by omega
    subst hme
    rw [List.take_length]
    have hyes : (decide (yi[k] = List.replicate yi[k].length 0) || (versL ss i ((k : Int) + 1)).contains yi[k]) = true := by
      rcases hYhas i ((k : Int) + 1) (by omega) (by omega) with ⟨q, hq⟩ | hq
      · rw [hbkY] at hq
        rw [hq]; simp
      · rw [hbkY] at hq
        simp [List.contains_eq_mem, hq]
    rw [hyes]
    try rw [Bool.not_true]
    rw [asB_bool, ifB_false]
    try rw [bin_add]
    try rw [wrap_i64 (by unfold i64; omega)]
    refine hK2 _ _ hkl ⟨(g16.trans hcv.g).trans g18, ?_⟩
    show _ = [[Value.int .i64 ((Go.Hd.tot ss Y i + (Go.Hd.cnt ss i k + (versL ss i (k + 1 : Nat)).length) : Nat) : Int)], [Value.int .i64 ((k + 1 : Nat) : Int)]]
    rw [show ((k + 1 : Nat) : Int) = (k : Int) + 1 from by simp]
    rw [show ((Go.Hd.tot ss Y i + (Go.Hd.cnt ss i k + (versL ss i ((k : Int) + 1)).length) : Nat) : Int) = ((Go.Hd.tot ss Y i + Go.Hd.cnt ss i k : Nat) : Int) + ((versL ss i ((k : Int) + 1)).length : Int) from by omega]

end Go.Proofs.Ytelfpkegpffajaa
