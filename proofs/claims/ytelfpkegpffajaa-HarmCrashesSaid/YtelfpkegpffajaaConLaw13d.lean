/- Contracts: a flip or a swap, done twice. -/
import Derived.Test.YtelfpkegpffajaaConLaw13c
namespace Go.Proofs.Ytelfpkegpffajaa
open Go.Ab Go.Md
set_option linter.unusedVariables false
set_option linter.unusedSimpArgs false
set_option maxRecDepth 20000

variable {H : Heap} {Q : Value → Heap → Prop} {A B C : Nat → Prop}

theorem doE_zero {c : Cfg} {d : Dv} {l : List See} {h : Hm} (he : doE c d l h = 0) : repE c d l = 0 ∧ mayH d l h = true ∧ doD c d l h = doneH c d l h := by
  have h3 : doD c d l h = doneH c d l h := if_pos he
  unfold doE at he
  split at he
  · rename_i hn; exact absurd he hn
  · rename_i hr
    refine ⟨Decidable.not_not.1 hr, ?_, h3⟩
    cases hm : mayH d l h
    · rw [hm] at he; simp at he
    · rfl
theorem doE_of {c : Cfg} {d : Dv} {l : List See} {h : Hm} (hr : repE c d l = 0) (hm : mayH d l h = true) : doE c d l h = 0 := by
  unfold doE; rw [if_neg (by omega), hm]; rfl

theorem may_doD {c : Cfg} {d : Dv} {l : List See} {h : Hm} (he : doE c d l h = 0) : may c d = true ∧ may c (doneH c d l h) = true := by
  obtain ⟨hr, hm, _⟩ := doE_zero he
  obtain ⟨hmay, hok⟩ := rep_zero hr
  exact ⟨hmay, Go.Hd.may_done (bl := []) hmay (may_blank (may_may hmay)) hok hm⟩

theorem c_HarmTwice {c : Cfg} {a l : Value} {d : Dv} {ss : List See} {h : Hm} (ha : Sl rBys H A a d) (hl : Sl rSee H B l ss) (hs : SeesIn ss) (hh : h.ok) (hQ : ∀ H', G H H' → Q (.bool true) H') :
    callV Try.prog (fnV fn_law13_HarmTwice) [.agg (cCfg c).toArray, .agg #[a], l, .agg (cHm h).toArray] H Q := by
  apply S_law13_HarmTwice_of
  unfold S_law13_HarmTwice
  have ha := ha.old
  have hl := hl.old
  have hh0 := hh
  obtain ⟨hk, hlev, hha, hhb, hat, hmk⟩ := hh0
  refine newT_of fun H1 g1 s1 => newT_of fun H2 g2 s2 => newT_of fun H2' g2' s2' => c_law13_alive fun H3 g3 => ?_
  have gg := ((g1.trans g2).trans g2').trans g3
  refine join_of (fun s H' => G H H' ∧ ∃ b, s = [[.bool b]] ∧ (b = false → Small d ∧ ss.length ≤ 2000)) (fun K hK => ?_) ?_
  · refine c_ref12_Great (ha.g gg) fun b H4 hb g4 => ?_
    have g := gg.trans g4
    cases b with
    | true => exact hK _ _ ⟨g, true, rfl, fun h => by cases h⟩
    | false =>
      refine c_ref12_GreatSees (hl.g g) fun b2 hb2 => ?_
      cases b2 with
      | true => exact hK _ _ ⟨g, true, rfl, fun h => by cases h⟩
      | false =>
        try simp only [sv_cons, sv_cons1, sc_cons, sc_cons1, asB_bool, ifB_true, ifB_false, un_not, bin_lss, bin_leq, bin_gtr, bin_geq, bin_eql, bin_neq, bin_add, bin_sub, bin_mul, ok_int, ok_bool, ok_slice, ok_str, ok_ptr, ok_map, ok_func, ok_iface, ok_nil, List.all_cons, List.all_nil, Bool.and_true, Bool.true_and, seg, setSeg, List.drop_succ_cons, List.drop_zero, List.take_succ_cons, List.take_zero, List.cons_append, List.nil_append, List.append_nil, List.length_cons, List.length_nil, List.drop_nil, List.size_toArray, Nat.reduceAdd, Nat.reduceLeDiff, Nat.reduceBEq, Nat.zero_add, Nat.le_refl, decide_true, mkV, List.headD_cons, cellsV, w_fldV, w_ext, w_fldP, List.getElem?_toArray, List.getElem?_cons_zero, List.getElem?_cons_succ, beq_self_eq_true, selV]
        exact hK _ _ ⟨g, false, rfl, fun h => ⟨hb rfl, hb2 rfl⟩⟩
  rintro s H4 ⟨g, b, rfl, hsm⟩
  cases b with
  | true => exact hQ _ g
  | false =>
  obtain ⟨hsmall, hsl⟩ := hsm rfl
  have hmid := hsmall.mid
  try simp only [sv_cons, sv_cons1, sc_cons, sc_cons1, asB_bool, ifB_true, ifB_false, un_not, bin_lss, bin_leq, bin_gtr, bin_geq, bin_eql, bin_neq, bin_add, bin_sub, bin_mul, ok_int, ok_bool, ok_slice, ok_str, ok_ptr, ok_map, ok_func, ok_iface, ok_nil, List.all_cons, List.all_nil, Bool.and_true, Bool.true_and, seg, setSeg, List.drop_succ_cons, List.drop_zero, List.take_succ_cons, List.take_zero, List.cons_append, List.nil_append, List.append_nil, List.length_cons, List.length_nil, List.drop_nil, List.size_toArray, Nat.reduceAdd, Nat.reduceLeDiff, Nat.reduceBEq, Nat.zero_add, Nat.le_refl, decide_true, mkV, List.headD_cons, cellsV, w_fldV, w_ext, w_fldP, List.getElem?_toArray, List.getElem?_cons_zero, List.getElem?_cons_succ, beq_self_eq_true, selV]
  refine c_harm_Do (ha.g g) (hl.g g) hmid ⟨by omega, hs.r64⟩ (by omega) hh fun x O F H5 hx g5 => ?_
  have g := g.trans g5
  try simp only [sv_cons, sv_cons1, sc_cons, sc_cons1, asB_bool, ifB_true, ifB_false, un_not, bin_lss, bin_leq, bin_gtr, bin_geq, bin_eql, bin_neq, bin_add, bin_sub, bin_mul, ok_int, ok_bool, ok_slice, ok_str, ok_ptr, ok_map, ok_func, ok_iface, ok_nil, List.all_cons, List.all_nil, Bool.and_true, Bool.true_and, seg, setSeg, List.drop_succ_cons, List.drop_zero, List.take_succ_cons, List.take_zero, List.cons_append, List.nil_append, List.append_nil, List.length_cons, List.length_nil, List.drop_nil, List.size_toArray, Nat.reduceAdd, Nat.reduceLeDiff, Nat.reduceBEq, Nat.zero_add, Nat.le_refl, decide_true, mkV, List.headD_cons, cellsV, w_fldV, w_ext, w_fldP, List.getElem?_toArray, List.getElem?_cons_zero, List.getElem?_cons_succ, beq_self_eq_true, selV]
  refine newT_of fun H6 g6 _ => ?_
  have g := g.trans g6
  have hxs := (hx.g g6).sl
  try simp only [sv_cons, sv_cons1, sc_cons, sc_cons1, asB_bool, ifB_true, ifB_false, un_not, bin_lss, bin_leq, bin_gtr, bin_geq, bin_eql, bin_neq, bin_add, bin_sub, bin_mul, ok_int, ok_bool, ok_slice, ok_str, ok_ptr, ok_map, ok_func, ok_iface, ok_nil, List.all_cons, List.all_nil, Bool.and_true, Bool.true_and, seg, setSeg, List.drop_succ_cons, List.drop_zero, List.take_succ_cons, List.take_zero, List.cons_append, List.nil_append, List.append_nil, List.length_cons, List.length_nil, List.drop_nil, List.size_toArray, Nat.reduceAdd, Nat.reduceLeDiff, Nat.reduceBEq, Nat.zero_add, Nat.le_refl, decide_true, mkV, List.headD_cons, cellsV, w_fldV, w_ext, w_fldP, List.getElem?_toArray, List.getElem?_cons_zero, List.getElem?_cons_succ, beq_self_eq_true, selV, hx.dv.okcv]
  refine ifD_of (fun he => ?_) (fun he => ?_)
  · have hx0 : doD c d ss h = [] := by unfold doD; rw [if_neg he]
    rw [hx0] at hxs
    refine join_of (fun s H' => H' = H6 ∧ s = [[.bool true]]) (fun K hK => ?_) ?_
    · refine hxs.len ?_
      try simp only [sv_cons, sv_cons1, sc_cons, sc_cons1, asB_bool, ifB_true, ifB_false, un_not, bin_lss, bin_leq, bin_gtr, bin_geq, bin_eql, bin_neq, bin_add, bin_sub, bin_mul, ok_int, ok_bool, ok_slice, ok_str, ok_ptr, ok_map, ok_func, ok_iface, ok_nil, List.all_cons, List.all_nil, Bool.and_true, Bool.true_and, seg, setSeg, List.drop_succ_cons, List.drop_zero, List.take_succ_cons, List.take_zero, List.cons_append, List.nil_append, List.append_nil, List.length_cons, List.length_nil, List.drop_nil, List.size_toArray, Nat.reduceAdd, Nat.reduceLeDiff, Nat.reduceBEq, Nat.zero_add, Nat.le_refl, decide_true, mkV, List.headD_cons, cellsV, w_fldV, w_ext, w_fldP, List.getElem?_toArray, List.getElem?_cons_zero, List.getElem?_cons_succ, beq_self_eq_true, selV]
      exact hK _ _ ⟨rfl, rfl⟩
    rintro s H' ⟨rfl, rfl⟩
    try simp only [sv_cons, sv_cons1, sc_cons, sc_cons1, asB_bool, ifB_true, ifB_false, un_not, bin_lss, bin_leq, bin_gtr, bin_geq, bin_eql, bin_neq, bin_add, bin_sub, bin_mul, ok_int, ok_bool, ok_slice, ok_str, ok_ptr, ok_map, ok_func, ok_iface, ok_nil, List.all_cons, List.all_nil, Bool.and_true, Bool.true_and, seg, setSeg, List.drop_succ_cons, List.drop_zero, List.take_succ_cons, List.take_zero, List.cons_append, List.nil_append, List.append_nil, List.length_cons, List.length_nil, List.drop_nil, List.size_toArray, Nat.reduceAdd, Nat.reduceLeDiff, Nat.reduceBEq, Nat.zero_add, Nat.le_refl, decide_true, mkV, List.headD_cons, cellsV, w_fldV, w_ext, w_fldP, List.getElem?_toArray, List.getElem?_cons_zero, List.getElem?_cons_succ, beq_self_eq_true, selV]
    exact hQ _ g
  have he : doE c d ss h = 0 := Decidable.not_not.1 he
  obtain ⟨hr, hm, hdo⟩ := doE_zero he
  obtain ⟨hmay, hmay2⟩ := may_doD he
  obtain ⟨hmayA, hok⟩ := rep_zero hr
  have hmx := mid_doD (c := c) (l := ss) (h := h) hmid
  rw [hdo] at hxs hmx
  obtain ⟨sh1, sh2⟩ := may_shape hmay hmay2
  generalize hX : doneH c d ss h = X at *
  refine join_of (fun s H' => G H6 H' ∧ s = [[.bool false]]) (fun K hK => ?_) ?_
  · refine c_dev_Check hxs hmx fun H7 g7 => ?_
    rw [hmay2, if_pos rfl]
    try simp only [sv_cons, sv_cons1, sc_cons, sc_cons1, asB_bool, ifB_true, ifB_false, un_not, bin_lss, bin_leq, bin_gtr, bin_geq, bin_eql, bin_neq, bin_add, bin_sub, bin_mul, ok_int, ok_bool, ok_slice, ok_str, ok_ptr, ok_map, ok_func, ok_iface, ok_nil, List.all_cons, List.all_nil, Bool.and_true, Bool.true_and, seg, setSeg, List.drop_succ_cons, List.drop_zero, List.take_succ_cons, List.take_zero, List.cons_append, List.nil_append, List.append_nil, List.length_cons, List.length_nil, List.drop_nil, List.size_toArray, Nat.reduceAdd, Nat.reduceLeDiff, Nat.reduceBEq, Nat.zero_add, Nat.le_refl, decide_true, mkV, List.headD_cons, cellsV, w_fldV, w_ext, w_fldP, List.getElem?_toArray, List.getElem?_cons_zero, List.getElem?_cons_succ, beq_self_eq_true, selV]
    refine (hxs.g g7).len ?_
    try simp only [sv_cons, sv_cons1, sc_cons, sc_cons1, asB_bool, ifB_true, ifB_false, un_not, bin_lss, bin_leq, bin_gtr, bin_geq, bin_eql, bin_neq, bin_add, bin_sub, bin_mul, ok_int, ok_bool, ok_slice, ok_str, ok_ptr, ok_map, ok_func, ok_iface, ok_nil, List.all_cons, List.all_nil, Bool.and_true, Bool.true_and, seg, setSeg, List.drop_succ_cons, List.drop_zero, List.take_succ_cons, List.take_zero, List.cons_append, List.nil_append, List.append_nil, List.length_cons, List.length_nil, List.drop_nil, List.size_toArray, Nat.reduceAdd, Nat.reduceLeDiff, Nat.reduceBEq, Nat.zero_add, Nat.le_refl, decide_true, mkV, List.headD_cons, cellsV, w_fldV, w_ext, w_fldP, List.getElem?_toArray, List.getElem?_cons_zero, List.getElem?_cons_succ, beq_self_eq_true, selV]
    refine (ha.g (g.trans g7)).len ?_
    try simp only [sv_cons, sv_cons1, sc_cons, sc_cons1, asB_bool, ifB_true, ifB_false, un_not, bin_lss, bin_leq, bin_gtr, bin_geq, bin_eql, bin_neq, bin_add, bin_sub, bin_mul, ok_int, ok_bool, ok_slice, ok_str, ok_ptr, ok_map, ok_func, ok_iface, ok_nil, List.all_cons, List.all_nil, Bool.and_true, Bool.true_and, seg, setSeg, List.drop_succ_cons, List.drop_zero, List.take_succ_cons, List.take_zero, List.cons_append, List.nil_append, List.append_nil, List.length_cons, List.length_nil, List.drop_nil, List.size_toArray, Nat.reduceAdd, Nat.reduceLeDiff, Nat.reduceBEq, Nat.zero_add, Nat.le_refl, decide_true, mkV, List.headD_cons, cellsV, w_fldV, w_ext, w_fldP, List.getElem?_toArray, List.getElem?_cons_zero, List.getElem?_cons_succ, beq_self_eq_true, selV]
    refine hK _ _ ⟨g7, ?_⟩
    rw [sh1]; simp
  rintro s H7 ⟨g7, rfl⟩
  have g := g.trans g7
  have hxs := hxs.g g7
  try simp only [sv_cons, sv_cons1, sc_cons, sc_cons1, asB_bool, ifB_true, ifB_false, un_not, bin_lss, bin_leq, bin_gtr, bin_geq, bin_eql, bin_neq, bin_add, bin_sub, bin_mul, ok_int, ok_bool, ok_slice, ok_str, ok_ptr, ok_map, ok_func, ok_iface, ok_nil, List.all_cons, List.all_nil, Bool.and_true, Bool.true_and, seg, setSeg, List.drop_succ_cons, List.drop_zero, List.take_succ_cons, List.take_zero, List.cons_append, List.nil_append, List.append_nil, List.length_cons, List.length_nil, List.drop_nil, List.size_toArray, Nat.reduceAdd, Nat.reduceLeDiff, Nat.reduceBEq, Nat.zero_add, Nat.le_refl, decide_true, mkV, List.headD_cons, cellsV, w_fldV, w_ext, w_fldP, List.getElem?_toArray, List.getElem?_cons_zero, List.getElem?_cons_succ, beq_self_eq_true, selV]
  refine join_of (fun s H' => H' = H7 ∧ s = [[.bool (decide (h.kind = 1 ∨ h.kind = 2))]]) (fun K hK => ?_) ?_
  · refine ifD_of (fun k1 => hK _ _ ⟨rfl, jb_t (.inl k1)⟩) (fun k1 => hK _ _ ⟨rfl, jb_d (by omega)⟩)
  rintro s H7' ⟨rfl, rfl⟩
  try simp only [sv_cons, sv_cons1, sc_cons, sc_cons1, asB_bool, ifB_true, ifB_false, un_not, bin_lss, bin_leq, bin_gtr, bin_geq, bin_eql, bin_neq, bin_add, bin_sub, bin_mul, ok_int, ok_bool, ok_slice, ok_str, ok_ptr, ok_map, ok_func, ok_iface, ok_nil, List.all_cons, List.all_nil, Bool.and_true, Bool.true_and, seg, setSeg, List.drop_succ_cons, List.drop_zero, List.take_succ_cons, List.take_zero, List.cons_append, List.nil_append, List.append_nil, List.length_cons, List.length_nil, List.drop_nil, List.size_toArray, Nat.reduceAdd, Nat.reduceLeDiff, Nat.reduceBEq, Nat.zero_add, Nat.le_refl, decide_true, mkV, List.headD_cons, cellsV, w_fldV, w_ext, w_fldP, List.getElem?_toArray, List.getElem?_cons_zero, List.getElem?_cons_succ, beq_self_eq_true, selV]
  refine join_of (fun s H' => G H7' H') (fun K hK => ?_) ?_
  · refine ifD_of (fun k12 => ?_) (fun _ => hK _ _ (G.fr (Fr.refl _ _)))
    have htw := Go.Hd.twice (c := c) k12 hmk hm
    rw [hX] at htw
    have hr2 : repE c X ss = 0 := rep_of hmay2 fun s hs => seeOk_shape hmay hmay2 (hok s hs)
    have he2 : doE c X ss h = 0 := doE_of hr2 htw.1
    have hd2 : doD c X ss h = d := by rw [(doE_zero he2).2.2]; exact htw.2
    refine c_harm_Do hxs (hl.g g) hmx ⟨by omega, hs.r64⟩ (by omega) hh fun y O2 F2 H8 hy g8 => ?_
    rw [hd2] at hy
    rw [he2]
    try simp only [sv_cons, sv_cons1, sc_cons, sc_cons1, asB_bool, ifB_true, ifB_false, un_not, bin_lss, bin_leq, bin_gtr, bin_geq, bin_eql, bin_neq, bin_add, bin_sub, bin_mul, ok_int, ok_bool, ok_slice, ok_str, ok_ptr, ok_map, ok_func, ok_iface, ok_nil, List.all_cons, List.all_nil, Bool.and_true, Bool.true_and, seg, setSeg, List.drop_succ_cons, List.drop_zero, List.take_succ_cons, List.take_zero, List.cons_append, List.nil_append, List.append_nil, List.length_cons, List.length_nil, List.drop_nil, List.size_toArray, Nat.reduceAdd, Nat.reduceLeDiff, Nat.reduceBEq, Nat.zero_add, Nat.le_refl, decide_true, mkV, List.headD_cons, cellsV, w_fldV, w_ext, w_fldP, List.getElem?_toArray, List.getElem?_cons_zero, List.getElem?_cons_succ, beq_self_eq_true, selV]
    refine newT_of fun H9 g9 _ => ?_
    try simp only [sv_cons, sv_cons1, sc_cons, sc_cons1, asB_bool, ifB_true, ifB_false, un_not, bin_lss, bin_leq, bin_gtr, bin_geq, bin_eql, bin_neq, bin_add, bin_sub, bin_mul, ok_int, ok_bool, ok_slice, ok_str, ok_ptr, ok_map, ok_func, ok_iface, ok_nil, List.all_cons, List.all_nil, Bool.and_true, Bool.true_and, seg, setSeg, List.drop_succ_cons, List.drop_zero, List.take_succ_cons, List.take_zero, List.cons_append, List.nil_append, List.append_nil, List.length_cons, List.length_nil, List.drop_nil, List.size_toArray, Nat.reduceAdd, Nat.reduceLeDiff, Nat.reduceBEq, Nat.zero_add, Nat.le_refl, decide_true, mkV, List.headD_cons, cellsV, w_fldV, w_ext, w_fldP, List.getElem?_toArray, List.getElem?_cons_zero, List.getElem?_cons_succ, beq_self_eq_true, selV, hy.dv.okcv]
    refine join_of (fun s H' => G H7' H' ∧ s = [[.bool false]]) (fun K2 hK2 => ?_) ?_
    · refine c_ref12_Same ((hy.g g9).sl) (ha.g ((g.trans g8).trans g9)) (by have := hmid.1; omega) (fun x hx => by have := (hmid.2 x hx).1; omega) fun H10 g10 => ?_
      try rw [decide_eq_true rfl]
      try simp only [sv_cons, sv_cons1, sc_cons, sc_cons1, asB_bool, ifB_true, ifB_false, un_not, bin_lss, bin_leq, bin_gtr, bin_geq, bin_eql, bin_neq, bin_add, bin_sub, bin_mul, ok_int, ok_bool, ok_slice, ok_str, ok_ptr, ok_map, ok_func, ok_iface, ok_nil, List.all_cons, List.all_nil, Bool.and_true, Bool.true_and, seg, setSeg, List.drop_succ_cons, List.drop_zero, List.take_succ_cons, List.take_zero, List.cons_append, List.nil_append, List.append_nil, List.length_cons, List.length_nil, List.drop_nil, List.size_toArray, Nat.reduceAdd, Nat.reduceLeDiff, Nat.reduceBEq, Nat.zero_add, Nat.le_refl, decide_true, mkV, List.headD_cons, cellsV, w_fldV, w_ext, w_fldP, List.getElem?_toArray, List.getElem?_cons_zero, List.getElem?_cons_succ, beq_self_eq_true, selV, Bool.not_true]
      exact hK2 _ _ ⟨(g8.trans g9).trans g10, rfl⟩
    rintro s H10 ⟨g10, rfl⟩
    try simp only [sv_cons, sv_cons1, sc_cons, sc_cons1, asB_bool, ifB_true, ifB_false, un_not, bin_lss, bin_leq, bin_gtr, bin_geq, bin_eql, bin_neq, bin_add, bin_sub, bin_mul, ok_int, ok_bool, ok_slice, ok_str, ok_ptr, ok_map, ok_func, ok_iface, ok_nil, List.all_cons, List.all_nil, Bool.and_true, Bool.true_and, seg, setSeg, List.drop_succ_cons, List.drop_zero, List.take_succ_cons, List.take_zero, List.cons_append, List.nil_append, List.append_nil, List.length_cons, List.length_nil, List.drop_nil, List.size_toArray, Nat.reduceAdd, Nat.reduceLeDiff, Nat.reduceBEq, Nat.zero_add, Nat.le_refl, decide_true, mkV, List.headD_cons, cellsV, w_fldV, w_ext, w_fldP, List.getElem?_toArray, List.getElem?_cons_zero, List.getElem?_cons_succ, beq_self_eq_true, selV]
    exact hK _ _ g10
  rintro s H8 g8
  have g := g.trans g8
  have hxs := hxs.g g8
  have ha := ha.g g
  refine loop_up d.length (fun i s H' => H' = H8 ∧ s = [[.int .i64 (i : Int)]]) ⟨rfl, rfl⟩ ?_
  rintro i s H' K hi ⟨rfl, rfl⟩ hK
  refine join_of (fun s H'' => H'' = H' ∧ s = [[.bool (decide (i < d.length ∧ h.kind ≠ 5))]]) (fun K2 hK2 => ?_) ?_
  · refine ha.len ?_
    try simp only [sv_cons, sv_cons1, sc_cons, sc_cons1, asB_bool, ifB_true, ifB_false, un_not, bin_lss, bin_leq, bin_gtr, bin_geq, bin_eql, bin_neq, bin_add, bin_sub, bin_mul, ok_int, ok_bool, ok_slice, ok_str, ok_ptr, ok_map, ok_func, ok_iface, ok_nil, List.all_cons, List.all_nil, Bool.and_true, Bool.true_and, seg, setSeg, List.drop_succ_cons, List.drop_zero, List.take_succ_cons, List.take_zero, List.cons_append, List.nil_append, List.append_nil, List.length_cons, List.length_nil, List.drop_nil, List.size_toArray, Nat.reduceAdd, Nat.reduceLeDiff, Nat.reduceBEq, Nat.zero_add, Nat.le_refl, decide_true, mkV, List.headD_cons, cellsV, w_fldV, w_ext, w_fldP, List.getElem?_toArray, List.getElem?_cons_zero, List.getElem?_cons_succ, beq_self_eq_true, selV]
    refine ifD_of (fun c1 => hK2 _ _ ⟨rfl, jb_d (by omega)⟩) (fun c1 => hK2 _ _ ⟨rfl, jb_f (by omega)⟩)
  rintro s H'' ⟨rfl, rfl⟩
  try simp only [sv_cons, sv_cons1, sc_cons, sc_cons1, asB_bool, ifB_true, ifB_false, un_not, bin_lss, bin_leq, bin_gtr, bin_geq, bin_eql, bin_neq, bin_add, bin_sub, bin_mul, ok_int, ok_bool, ok_slice, ok_str, ok_ptr, ok_map, ok_func, ok_iface, ok_nil, List.all_cons, List.all_nil, Bool.and_true, Bool.true_and, seg, setSeg, List.drop_succ_cons, List.drop_zero, List.take_succ_cons, List.take_zero, List.cons_append, List.nil_append, List.append_nil, List.length_cons, List.length_nil, List.drop_nil, List.size_toArray, Nat.reduceAdd, Nat.reduceLeDiff, Nat.reduceBEq, Nat.zero_add, Nat.le_refl, decide_true, mkV, List.headD_cons, cellsV, w_fldV, w_ext, w_fldP, List.getElem?_toArray, List.getElem?_cons_zero, List.getElem?_cons_succ, beq_self_eq_true, selV]
  refine ifD_of (fun c1 => ?_) (fun c1 => hQ _ g)
  obtain ⟨hlt, k5⟩ := c1
  have hdi : d[i]? = some d[i] := List.getElem?_eq_getElem hlt
  have hltX : i < X.length := by omega
  have hxi : X[i]? = some X[i] := List.getElem?_eq_getElem hltX
  have hlD : lvlOf d (i : Int) = d[i] := by unfold lvlOf; rw [List.getD_eq_getElem?_getD, Int.toNat_natCast, hdi]; rfl
  have hlX : lvlOf X (i : Int) = X[i] := by unfold lvlOf; rw [List.getD_eq_getElem?_getD, Int.toNat_natCast, hxi]; rfl
  have hll := (sh2 (i : Int) (by omega) (by omega)).1
  rw [hlD, hlX] at hll
  have hm1 : d[i].length ≤ 1000 := (hmid.2 _ (List.getElem_mem hlt)).1
  refine loop_up d[i].length (fun k s H' => H' = H'' ∧ s = [[.int .i64 (k : Int)]]) ⟨rfl, rfl⟩ ?_
  rintro k s H3 K3 hki ⟨rfl, rfl⟩ hK3
  refine join_of (fun s H' => H' = H3 ∧ s = [[.bool (decide (k < d[i].length))]]) (fun K2 hK2 => ?_) ?_
  · refine ha.getS hdi fun u hu => hu.len ?_
    try simp only [sv_cons, sv_cons1, sc_cons, sc_cons1, asB_bool, ifB_true, ifB_false, un_not, bin_lss, bin_leq, bin_gtr, bin_geq, bin_eql, bin_neq, bin_add, bin_sub, bin_mul, ok_int, ok_bool, ok_slice, ok_str, ok_ptr, ok_map, ok_func, ok_iface, ok_nil, List.all_cons, List.all_nil, Bool.and_true, Bool.true_and, seg, setSeg, List.drop_succ_cons, List.drop_zero, List.take_succ_cons, List.take_zero, List.cons_append, List.nil_append, List.append_nil, List.length_cons, List.length_nil, List.drop_nil, List.size_toArray, Nat.reduceAdd, Nat.reduceLeDiff, Nat.reduceBEq, Nat.zero_add, Nat.le_refl, decide_true, mkV, List.headD_cons, cellsV, w_fldV, w_ext, w_fldP, List.getElem?_toArray, List.getElem?_cons_zero, List.getElem?_cons_succ, beq_self_eq_true, selV]
    refine ifD_of (fun c1 => ?_) (fun c1 => hK2 _ _ ⟨rfl, jb_f (by omega)⟩)
    refine hxs.getS hxi fun u hu => hu.len ?_
    try simp only [sv_cons, sv_cons1, sc_cons, sc_cons1, asB_bool, ifB_true, ifB_false, un_not, bin_lss, bin_leq, bin_gtr, bin_geq, bin_eql, bin_neq, bin_add, bin_sub, bin_mul, ok_int, ok_bool, ok_slice, ok_str, ok_ptr, ok_map, ok_func, ok_iface, ok_nil, List.all_cons, List.all_nil, Bool.and_true, Bool.true_and, seg, setSeg, List.drop_succ_cons, List.drop_zero, List.take_succ_cons, List.take_zero, List.cons_append, List.nil_append, List.append_nil, List.length_cons, List.length_nil, List.drop_nil, List.size_toArray, Nat.reduceAdd, Nat.reduceLeDiff, Nat.reduceBEq, Nat.zero_add, Nat.le_refl, decide_true, mkV, List.headD_cons, cellsV, w_fldV, w_ext, w_fldP, List.getElem?_toArray, List.getElem?_cons_zero, List.getElem?_cons_succ, beq_self_eq_true, selV]
    exact hK2 _ _ ⟨rfl, jb_d (by omega)⟩
  rintro s H' ⟨rfl, rfl⟩
  try simp only [sv_cons, sv_cons1, sc_cons, sc_cons1, asB_bool, ifB_true, ifB_false, un_not, bin_lss, bin_leq, bin_gtr, bin_geq, bin_eql, bin_neq, bin_add, bin_sub, bin_mul, ok_int, ok_bool, ok_slice, ok_str, ok_ptr, ok_map, ok_func, ok_iface, ok_nil, List.all_cons, List.all_nil, Bool.and_true, Bool.true_and, seg, setSeg, List.drop_succ_cons, List.drop_zero, List.take_succ_cons, List.take_zero, List.cons_append, List.nil_append, List.append_nil, List.length_cons, List.length_nil, List.drop_nil, List.size_toArray, Nat.reduceAdd, Nat.reduceLeDiff, Nat.reduceBEq, Nat.zero_add, Nat.le_refl, decide_true, mkV, List.headD_cons, cellsV, w_fldV, w_ext, w_fldP, List.getElem?_toArray, List.getElem?_cons_zero, List.getElem?_cons_succ, beq_self_eq_true, selV]
  refine ifD_of (fun hkl => ?_) (fun hkl => ?_)
  rotate_left
  · have hi1 : i < 1000 := Nat.lt_of_lt_of_le hlt hmid.1
    rw [wrap_i64 (by unfold i64; omega)]
    exact hK _ _ hlt ⟨rfl, by simp⟩
  have hk1 : k < 1000 := Nat.lt_of_lt_of_le hkl hm1
  have e1 : i64 ((k : Int) + 1) := by unfold i64; omega
  refine join_of (fun s H'' => H'' = H' ∧ ∃ b, s = [[.bool b]] ∧ (b = false → ¬ ((i : Int) = h.level ∧ ((k : Int) + 1 = h.a ∨ h.kind = 2 ∧ (k : Int) + 1 = h.b)))) (fun K2 hK2 => ?_) ?_
  · refine ifD_of (fun c1 => ?_) (fun c1 => ⟨trivial, trivial, trivial, trivial, trivial, trivial, trivial, trivial, trivial, trivial, hK2 _ _ ⟨rfl, false, rfl, fun _ hn => c1 hn.1⟩⟩)
    rw [wrap_i64 e1]
    refine ifD_of (fun c2 => ⟨trivial, trivial, trivial, trivial, trivial, hK2 _ _ ⟨rfl, true, rfl, fun h => by cases h⟩⟩) (fun c2 => ?_)
    refine ifD_of (fun c3 => ?_) (fun c3 => hK2 _ _ ⟨rfl, false, rfl, fun _ hn => hn.2.elim c2 fun h => c3 h.1⟩)
    refine hK2 _ _ ⟨rfl, _, rfl, fun hb hn => ?_⟩
    have := of_decide_eq_false hb
    exact hn.2.elim c2 fun h => this h.2
  rintro s H'' ⟨rfl, b, rfl, hb⟩
  try simp only [sv_cons, sv_cons1, sc_cons, sc_cons1, asB_bool, ifB_true, ifB_false, un_not, bin_lss, bin_leq, bin_gtr, bin_geq, bin_eql, bin_neq, bin_add, bin_sub, bin_mul, ok_int, ok_bool, ok_slice, ok_str, ok_ptr, ok_map, ok_func, ok_iface, ok_nil, List.all_cons, List.all_nil, Bool.and_true, Bool.true_and, seg, setSeg, List.drop_succ_cons, List.drop_zero, List.take_succ_cons, List.take_zero, List.cons_append, List.nil_append, List.append_nil, List.length_cons, List.length_nil, List.drop_nil, List.size_toArray, Nat.reduceAdd, Nat.reduceLeDiff, Nat.reduceBEq, Nat.zero_add, Nat.le_refl, decide_true, mkV, List.headD_cons, cellsV, w_fldV, w_ext, w_fldP, List.getElem?_toArray, List.getElem?_cons_zero, List.getElem?_cons_succ, beq_self_eq_true, selV]
  refine join_of (fun s H' => H' = H'' ∧ s = [[.bool false]]) (fun K2 hK2 => ?_) ?_
  · cases b with
    | true => exact hK2 _ _ ⟨rfl, rfl⟩
    | false =>
      try simp only [sv_cons, sv_cons1, sc_cons, sc_cons1, asB_bool, ifB_true, ifB_false, un_not, bin_lss, bin_leq, bin_gtr, bin_geq, bin_eql, bin_neq, bin_add, bin_sub, bin_mul, ok_int, ok_bool, ok_slice, ok_str, ok_ptr, ok_map, ok_func, ok_iface, ok_nil, List.all_cons, List.all_nil, Bool.and_true, Bool.true_and, seg, setSeg, List.drop_succ_cons, List.drop_zero, List.take_succ_cons, List.take_zero, List.cons_append, List.nil_append, List.append_nil, List.length_cons, List.length_nil, List.drop_nil, List.size_toArray, Nat.reduceAdd, Nat.reduceLeDiff, Nat.reduceBEq, Nat.zero_add, Nat.le_refl, decide_true, mkV, List.headD_cons, cellsV, w_fldV, w_ext, w_fldP, List.getElem?_toArray, List.getElem?_cons_zero, List.getElem?_cons_succ, beq_self_eq_true, selV, Bool.not_false]
      have hdk : d[i][k]? = some d[i][k] := List.getElem?_eq_getElem hkl
      have hxk : X[i][k]? = some (X[i]'hltX)[k] := List.getElem?_eq_getElem (by omega)
      have hst := Go.Hd.stays (c := c) hm k5 (i := i) (k := (k : Int) + 1) (by omega) (by omega) (hb rfl)
      rw [hX] at hst
      have hsame : (X[i]'hltX)[k]'(by omega) = d[i][k] := by
        unfold bk at hst
        rw [hlD, hlX, show ((k : Int) + 1 - 1).toNat = k by omega, List.getD_eq_getElem?_getD, List.getD_eq_getElem?_getD, hdk, hxk] at hst
        exact hst
      refine hxs.atS hxi fun p1 w1 hp1 hw1 => hp1.load rfl ?_
      refine hw1.getS hxk fun u1 hu1 => ?_
      refine ha.atS hdi fun p2 w2 hp2 hw2 => hp2.load rfl ?_
      refine hw2.getS hdk fun u2 hu2 => ?_
      rw [hsame] at hu1
      refine c_ref01_Same hu1 hu2 ⟨hp2.load rfl rfl, hp1.load rfl rfl, ?_⟩
      try rw [decide_eq_true rfl]
      try simp only [sv_cons, sv_cons1, sc_cons, sc_cons1, asB_bool, ifB_true, ifB_false, un_not, bin_lss, bin_leq, bin_gtr, bin_geq, bin_eql, bin_neq, bin_add, bin_sub, bin_mul, ok_int, ok_bool, ok_slice, ok_str, ok_ptr, ok_map, ok_func, ok_iface, ok_nil, List.all_cons, List.all_nil, Bool.and_true, Bool.true_and, seg, setSeg, List.drop_succ_cons, List.drop_zero, List.take_succ_cons, List.take_zero, List.cons_append, List.nil_append, List.append_nil, List.length_cons, List.length_nil, List.drop_nil, List.size_toArray, Nat.reduceAdd, Nat.reduceLeDiff, Nat.reduceBEq, Nat.zero_add, Nat.le_refl, decide_true, mkV, List.headD_cons, cellsV, w_fldV, w_ext, w_fldP, List.getElem?_toArray, List.getElem?_cons_zero, List.getElem?_cons_succ, beq_self_eq_true, selV, Bool.not_true]
      exact hK2 _ _ ⟨rfl, rfl⟩
  rintro s H' ⟨rfl, rfl⟩
  try simp only [sv_cons, sv_cons1, sc_cons, sc_cons1, asB_bool, ifB_true, ifB_false, un_not, bin_lss, bin_leq, bin_gtr, bin_geq, bin_eql, bin_neq, bin_add, bin_sub, bin_mul, ok_int, ok_bool, ok_slice, ok_str, ok_ptr, ok_map, ok_func, ok_iface, ok_nil, List.all_cons, List.all_nil, Bool.and_true, Bool.true_and, seg, setSeg, List.drop_succ_cons, List.drop_zero, List.take_succ_cons, List.take_zero, List.cons_append, List.nil_append, List.append_nil, List.length_cons, List.length_nil, List.drop_nil, List.size_toArray, Nat.reduceAdd, Nat.reduceLeDiff, Nat.reduceBEq, Nat.zero_add, Nat.le_refl, decide_true, mkV, List.headD_cons, cellsV, w_fldV, w_ext, w_fldP, List.getElem?_toArray, List.getElem?_cons_zero, List.getElem?_cons_succ, beq_self_eq_true, selV]
  rw [wrap_i64 e1]
  exact hK3 _ _ hkl ⟨rfl, by simp⟩

end Go.Proofs.Ytelfpkegpffajaa
