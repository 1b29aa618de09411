/- Contracts: the document's answer about harms. -/
import Derived.Test.YtelfpkegpffajaaConHarm3
namespace Go.Proofs.Ytelfpkegpffajaa
open Go.Ab Go.Md
set_option linter.unusedVariables false
set_option linter.unusedSimpArgs false
set_option maxRecDepth 20000

variable {H : Heap} {Q : Value → Heap → Prop} {A B C : Nat → Prop}

theorem c_ref13_Versions {x : Value} {l : List See} {level b : Int} (hl : Sl rSee H B x l) (hn : l.length ≤ 10000) (hby : ∀ s ∈ l, s.bytes.length ≤ 140737488355328)
    (hQ : ∀ v bb vs F H', Cl H H' v bb vs F (versL l level b) → Q v H') : callV Try.prog (fnV fn_ref13_Versions) [x, .int .i64 level, .int .i64 b] H Q := by
  have hl := hl.old
  apply S_ref13_Versions_of
  unfold S_ref13_Versions
  refine loop_up l.length (fun i s H' => ∃ v bb vs F, Cl H H' v bb vs F (versL (l.take i) level b) ∧ s = [[v], [.int .i64 (i : Int)]]) ⟨_, _, _, _, by simpa [versL] using Cl.nil (G.fr (Fr.refl _ H)), rfl⟩ ?_
  rintro i s H' K hi ⟨v, bb, vs, F, hc, rfl⟩ hK
  have hlg := hl.g hc.g
  refine hlg.len ?_
  try simp only [sv_cons, sv_cons1, sc_cons, sc_cons1, asB_bool, ifB_true, ifB_false, un_not, bin_lss, bin_leq, bin_gtr, bin_geq, bin_eql, bin_neq, bin_add, bin_sub, bin_mul, ok_int, ok_bool, ok_slice, ok_str, ok_ptr, ok_map, ok_func, ok_iface, ok_nil, List.all_cons, List.all_nil, Bool.and_true, Bool.true_and, seg, setSeg, List.drop_succ_cons, List.drop_zero, List.take_succ_cons, List.take_zero, List.cons_append, List.nil_append, List.append_nil, List.length_cons, List.length_nil, List.drop_nil, List.size_toArray, Nat.reduceAdd, Nat.reduceLeDiff, Nat.reduceBEq, Nat.zero_add, Nat.le_refl, decide_true, mkV, List.headD_cons, cellsV, w_fldV, w_ext, w_fldP, List.getElem?_toArray, List.getElem?_cons_zero, List.getElem?_cons_succ, beq_self_eq_true, selV]
  refine ifD_of (fun c1 => ?_) (fun c1 => ?_)
  · have hlt : i < l.length := by omega
    have hx : l[i]? = some l[i] := List.getElem?_eq_getElem hlt
    have htk : l.take (i + 1) = l.take i ++ [l[i]] := List.take_succ_eq_append_getElem hlt
    have hbs := hby _ (List.getElem_mem hlt)
    have hvl := versL_len (l := l.take i) (level := level) (b := b)
    have htl : (l.take i).length = i := by rw [List.length_take]; omega
    generalize l[i] = s at *
    refine join_of (fun st H1 => H1 = H' ∧ st = [[.bool (isW level b s)]]) (fun K hK => ?_) ?_
    · refine hlg.at rfl hx fun p cs hp hr => ?_
      obtain ⟨u, rfl, hu⟩ := hr
      refine hp.fld1 (by simp) fun p1 hp1 => hp1.load rfl ?_
      try simp only [sv_cons, sv_cons1, sc_cons, sc_cons1, asB_bool, ifB_true, ifB_false, un_not, bin_lss, bin_leq, bin_gtr, bin_geq, bin_eql, bin_neq, bin_add, bin_sub, bin_mul, ok_int, ok_bool, ok_slice, ok_str, ok_ptr, ok_map, ok_func, ok_iface, ok_nil, List.all_cons, List.all_nil, Bool.and_true, Bool.true_and, seg, setSeg, List.drop_succ_cons, List.drop_zero, List.take_succ_cons, List.take_zero, List.cons_append, List.nil_append, List.append_nil, List.length_cons, List.length_nil, List.drop_nil, List.size_toArray, Nat.reduceAdd, Nat.reduceLeDiff, Nat.reduceBEq, Nat.zero_add, Nat.le_refl, decide_true, mkV, List.headD_cons, cellsV, w_fldV, w_ext, w_fldP, List.getElem?_toArray, List.getElem?_cons_zero, List.getElem?_cons_succ, beq_self_eq_true, selV]
      refine ifD_of (fun c2 => ?_) (fun c2 => hK _ _ ⟨rfl, by unfold isW; simp [c2]⟩)
      refine hlg.at rfl hx fun p cs hp hr => ?_
      obtain ⟨u, rfl, hu⟩ := hr
      refine hp.fld1 (by simp) fun p1 hp1 => hp1.load rfl ?_
      try simp only [sv_cons, sv_cons1, sc_cons, sc_cons1, asB_bool, ifB_true, ifB_false, un_not, bin_lss, bin_leq, bin_gtr, bin_geq, bin_eql, bin_neq, bin_add, bin_sub, bin_mul, ok_int, ok_bool, ok_slice, ok_str, ok_ptr, ok_map, ok_func, ok_iface, ok_nil, List.all_cons, List.all_nil, Bool.and_true, Bool.true_and, seg, setSeg, List.drop_succ_cons, List.drop_zero, List.take_succ_cons, List.take_zero, List.cons_append, List.nil_append, List.append_nil, List.length_cons, List.length_nil, List.drop_nil, List.size_toArray, Nat.reduceAdd, Nat.reduceLeDiff, Nat.reduceBEq, Nat.zero_add, Nat.le_refl, decide_true, mkV, List.headD_cons, cellsV, w_fldV, w_ext, w_fldP, List.getElem?_toArray, List.getElem?_cons_zero, List.getElem?_cons_succ, beq_self_eq_true, selV]
      refine ifD_of (fun c3 => ?_) (fun c3 => hK _ _ ⟨rfl, by unfold isW; simp [c3]⟩)
      refine hlg.at rfl hx fun p cs hp hr => ?_
      obtain ⟨u, rfl, hu⟩ := hr
      refine hp.fld1 (by simp) fun p1 hp1 => hp1.load rfl ?_
      try simp only [sv_cons, sv_cons1, sc_cons, sc_cons1, asB_bool, ifB_true, ifB_false, un_not, bin_lss, bin_leq, bin_gtr, bin_geq, bin_eql, bin_neq, bin_add, bin_sub, bin_mul, ok_int, ok_bool, ok_slice, ok_str, ok_ptr, ok_map, ok_func, ok_iface, ok_nil, List.all_cons, List.all_nil, Bool.and_true, Bool.true_and, seg, setSeg, List.drop_succ_cons, List.drop_zero, List.take_succ_cons, List.take_zero, List.cons_append, List.nil_append, List.append_nil, List.length_cons, List.length_nil, List.drop_nil, List.size_toArray, Nat.reduceAdd, Nat.reduceLeDiff, Nat.reduceBEq, Nat.zero_add, Nat.le_refl, decide_true, mkV, List.headD_cons, cellsV, w_fldV, w_ext, w_fldP, List.getElem?_toArray, List.getElem?_cons_zero, List.getElem?_cons_succ, beq_self_eq_true, selV]
      exact hK _ _ ⟨rfl, by unfold isW; by_cases c4 : s.bucket = b <;> simp [c2, c3, c4]⟩
    rintro st H1 ⟨rfl, rfl⟩
    try simp only [sv_cons, sv_cons1, sc_cons, sc_cons1, asB_bool, ifB_true, ifB_false, un_not, bin_lss, bin_leq, bin_gtr, bin_geq, bin_eql, bin_neq, bin_add, bin_sub, bin_mul, ok_int, ok_bool, ok_slice, ok_str, ok_ptr, ok_map, ok_func, ok_iface, ok_nil, List.all_cons, List.all_nil, Bool.and_true, Bool.true_and, seg, setSeg, List.drop_succ_cons, List.drop_zero, List.take_succ_cons, List.take_zero, List.cons_append, List.nil_append, List.append_nil, List.length_cons, List.length_nil, List.drop_nil, List.size_toArray, Nat.reduceAdd, Nat.reduceLeDiff, Nat.reduceBEq, Nat.zero_add, Nat.le_refl, decide_true, mkV, List.headD_cons, cellsV, w_fldV, w_ext, w_fldP, List.getElem?_toArray, List.getElem?_cons_zero, List.getElem?_cons_succ, beq_self_eq_true, selV]
    refine join_of (fun st H2 => ∃ v bb vs F, Cl H H2 v bb vs F (versL (l.take (i + 1)) level b) ∧ st = [[v]]) (fun K hK => ?_) ?_
    · rw [htk, versL_snoc] at hK
      refine ifB_of (fun hw => ?_) (fun hw => ?_)
      · rw [hw] at hK
        refine bld_nil rU8 fun t H2 ht g2 s2 => ?_
        refine (hlg.g g2).at rfl hx fun p cs hp hr => ?_
        obtain ⟨u, rfl, hu⟩ := hr
        refine hp.fld1 (by simp) fun p1 hp1 => hp1.load rfl ?_
        try simp only [sv_cons, sv_cons1, sc_cons, sc_cons1, asB_bool, ifB_true, ifB_false, un_not, bin_lss, bin_leq, bin_gtr, bin_geq, bin_eql, bin_neq, bin_add, bin_sub, bin_mul, ok_int, ok_bool, ok_slice, ok_str, ok_ptr, ok_map, ok_func, ok_iface, ok_nil, List.all_cons, List.all_nil, Bool.and_true, Bool.true_and, seg, setSeg, List.drop_succ_cons, List.drop_zero, List.take_succ_cons, List.take_zero, List.cons_append, List.nil_append, List.append_nil, List.length_cons, List.length_nil, List.drop_nil, List.size_toArray, Nat.reduceAdd, Nat.reduceLeDiff, Nat.reduceBEq, Nat.zero_add, Nat.le_refl, decide_true, mkV, List.headD_cons, cellsV, w_fldV, w_ext, w_fldP, List.getElem?_toArray, List.getElem?_cons_zero, List.getElem?_cons_succ, beq_self_eq_true, selV]
        refine clone_appL ht hu rfl hbs fun w H3 bw hw3 hf hb => ?_
        have hwl := hw3.lt
        have g3 : G H1 H3 := g2.then hf fun y hy => show y + 1 ≠ H1.size + 1 by omega
        refine hc.push g3 hw3 (.inr (by omega)) rfl rfl (by omega) (by omega) fun v' H4 b' hc' _ _ => hK _ _ ⟨v', b', _, _, hc', rfl⟩
      · rw [hw] at hK
        exact hK _ _ ⟨v, bb, vs, F, by simpa using hc, rfl⟩
    rintro st H2 ⟨v, bb, vs, F, hc, rfl⟩
    try simp only [sv_cons, sv_cons1, sc_cons, sc_cons1, asB_bool, ifB_true, ifB_false, un_not, bin_lss, bin_leq, bin_gtr, bin_geq, bin_eql, bin_neq, bin_add, bin_sub, bin_mul, ok_int, ok_bool, ok_slice, ok_str, ok_ptr, ok_map, ok_func, ok_iface, ok_nil, List.all_cons, List.all_nil, Bool.and_true, Bool.true_and, seg, setSeg, List.drop_succ_cons, List.drop_zero, List.take_succ_cons, List.take_zero, List.cons_append, List.nil_append, List.append_nil, List.length_cons, List.length_nil, List.drop_nil, List.size_toArray, Nat.reduceAdd, Nat.reduceLeDiff, Nat.reduceBEq, Nat.zero_add, Nat.le_refl, decide_true, mkV, List.headD_cons, cellsV, w_fldV, w_ext, w_fldP, List.getElem?_toArray, List.getElem?_cons_zero, List.getElem?_cons_succ, beq_self_eq_true, selV]
    rw [wrap_i64 (by unfold i64; omega)]
    exact hK _ _ hlt ⟨v, bb, vs, F, hc, by simp⟩
  · have : i = l.length := by omega
    subst this
    rw [List.take_length] at hc
    exact hQ v bb vs F H' hc

theorem c_ref13_Writes {x : Value} {l : List See} (hl : Sl rSee H B x l) (hn : l.length ≤ 1000000) (hQ : Q (.int .i64 (writesN l : Int)) H) : callV Try.prog (fnV fn_ref13_Writes) [x] H Q := by
  apply S_ref13_Writes_of
  unfold S_ref13_Writes
  refine loop_up l.length (fun i s H' => H' = H ∧ s = [[.int .i64 (writesN (l.take i) : Int)], [.int .i64 (i : Int)]]) ⟨rfl, rfl⟩ ?_
  rintro i s H' K hi ⟨rfl, rfl⟩ hK
  refine hl.len ?_
  try simp only [sv_cons, sv_cons1, sc_cons, sc_cons1, asB_bool, ifB_true, ifB_false, un_not, bin_lss, bin_leq, bin_gtr, bin_geq, bin_eql, bin_neq, bin_add, bin_sub, bin_mul, ok_int, ok_bool, ok_slice, ok_str, ok_ptr, ok_map, ok_func, ok_iface, ok_nil, List.all_cons, List.all_nil, Bool.and_true, Bool.true_and, seg, setSeg, List.drop_succ_cons, List.drop_zero, List.take_succ_cons, List.take_zero, List.cons_append, List.nil_append, List.append_nil, List.length_cons, List.length_nil, List.drop_nil, List.size_toArray, Nat.reduceAdd, Nat.reduceLeDiff, Nat.reduceBEq, Nat.zero_add, Nat.le_refl, decide_true, mkV, List.headD_cons, cellsV, w_fldV, w_ext, w_fldP, List.getElem?_toArray, List.getElem?_cons_zero, List.getElem?_cons_succ, beq_self_eq_true, selV]
  refine ifD_of (fun c1 => ?_) (fun c1 => ?_)
  · have hlt : i < l.length := by omega
    have hx : l[i]? = some l[i] := List.getElem?_eq_getElem hlt
    have htk : l.take (i + 1) = l.take i ++ [l[i]] := List.take_succ_eq_append_getElem hlt
    have hwl : writesN (l.take i) ≤ i := by have := List.countP_le_length (p := fun s : See => s.kind == 2) (l := l.take i); rw [List.length_take] at this; unfold writesN; omega
    have hws : writesN (l.take (i + 1)) = writesN (l.take i) + (if l[i].kind = 2 then 1 else 0) := by
      rw [htk]; unfold writesN; rw [List.countP_append, List.countP_cons]; simp
    generalize l[i] = s at *
    refine hl.at rfl hx fun p cs hp hr => ?_
    obtain ⟨u, rfl, hu⟩ := hr
    refine hp.fld1 (by simp) fun p1 hp1 => hp1.load rfl ?_
    try simp only [sv_cons, sv_cons1, sc_cons, sc_cons1, asB_bool, ifB_true, ifB_false, un_not, bin_lss, bin_leq, bin_gtr, bin_geq, bin_eql, bin_neq, bin_add, bin_sub, bin_mul, ok_int, ok_bool, ok_slice, ok_str, ok_ptr, ok_map, ok_func, ok_iface, ok_nil, List.all_cons, List.all_nil, Bool.and_true, Bool.true_and, seg, setSeg, List.drop_succ_cons, List.drop_zero, List.take_succ_cons, List.take_zero, List.cons_append, List.nil_append, List.append_nil, List.length_cons, List.length_nil, List.drop_nil, List.size_toArray, Nat.reduceAdd, Nat.reduceLeDiff, Nat.reduceBEq, Nat.zero_add, Nat.le_refl, decide_true, mkV, List.headD_cons, cellsV, w_fldV, w_ext, w_fldP, List.getElem?_toArray, List.getElem?_cons_zero, List.getElem?_cons_succ, beq_self_eq_true, selV]
    refine join_of (fun st H1 => H1 = H' ∧ st = [[.int .i64 (writesN (l.take (i + 1)) : Int)]]) (fun K hK => ?_) ?_
    · refine ifD_of (fun c2 => ?_) (fun c2 => ?_)
      · rw [wrap_i64 (by unfold i64; omega)]
        exact hK _ _ ⟨rfl, by rw [hws, if_pos c2]; simp⟩
      · exact hK _ _ ⟨rfl, by rw [hws, if_neg c2]; simp⟩
    rintro st H1 ⟨rfl, rfl⟩
    try simp only [sv_cons, sv_cons1, sc_cons, sc_cons1, asB_bool, ifB_true, ifB_false, un_not, bin_lss, bin_leq, bin_gtr, bin_geq, bin_eql, bin_neq, bin_add, bin_sub, bin_mul, ok_int, ok_bool, ok_slice, ok_str, ok_ptr, ok_map, ok_func, ok_iface, ok_nil, List.all_cons, List.all_nil, Bool.and_true, Bool.true_and, seg, setSeg, List.drop_succ_cons, List.drop_zero, List.take_succ_cons, List.take_zero, List.cons_append, List.nil_append, List.append_nil, List.length_cons, List.length_nil, List.drop_nil, List.size_toArray, Nat.reduceAdd, Nat.reduceLeDiff, Nat.reduceBEq, Nat.zero_add, Nat.le_refl, decide_true, mkV, List.headD_cons, cellsV, w_fldV, w_ext, w_fldP, List.getElem?_toArray, List.getElem?_cons_zero, List.getElem?_cons_succ, beq_self_eq_true, selV]
    rw [wrap_i64 (by unfold i64; omega)]
    exact hK _ _ hlt ⟨rfl, by simp⟩
  · have : i = l.length := by omega
    subst this
    rw [List.take_length]
    exact hQ

theorem c_ref13_First {x : Value} {l : List See} {many : Int} (hl : Sl rSee H B x l) (hn : l.length ≤ 1000000) (hm : 0 ≤ many)
    (hQ : ∀ v, Sl rSee H B v (firstW l many.toNat) → Q v H) : callV Try.prog (fnV fn_ref13_First) [x, .int .i64 many] H Q := by
  apply S_ref13_First_of
  unfold S_ref13_First
  refine loop_up l.length (fun i s H' => H' = H ∧ ∃ m : Nat, m ≤ many.toNat ∧ s = [[.int .i64 (many - m)], [.int .i64 (i : Int)]] ∧ firstW l many.toNat = l.take i ++ firstW (l.drop i) m ∧ many - m ≤ i)
    ⟨rfl, many.toNat, Nat.le_refl _, by rw [Int.toNat_of_nonneg hm, Int.sub_self]; rfl, by simp, by omega⟩ ?_
  rintro i s H' K hi ⟨rfl, m, hmm, rfl, e1, hle⟩ hK
  refine hl.len ?_
  try simp only [sv_cons, sv_cons1, sc_cons, sc_cons1, asB_bool, ifB_true, ifB_false, un_not, bin_lss, bin_leq, bin_gtr, bin_geq, bin_eql, bin_neq, bin_add, bin_sub, bin_mul, ok_int, ok_bool, ok_slice, ok_str, ok_ptr, ok_map, ok_func, ok_iface, ok_nil, List.all_cons, List.all_nil, Bool.and_true, Bool.true_and, seg, setSeg, List.drop_succ_cons, List.drop_zero, List.take_succ_cons, List.take_zero, List.cons_append, List.nil_append, List.append_nil, List.length_cons, List.length_nil, List.drop_nil, List.size_toArray, Nat.reduceAdd, Nat.reduceLeDiff, Nat.reduceBEq, Nat.zero_add, Nat.le_refl, decide_true, mkV, List.headD_cons, cellsV, w_fldV, w_ext, w_fldP, List.getElem?_toArray, List.getElem?_cons_zero, List.getElem?_cons_succ, beq_self_eq_true, selV]
  refine ifD_of (fun c1 => ?_) (fun c1 => ?_)
  · have hlt : i < l.length := by omega
    have hx : l[i]? = some l[i] := List.getElem?_eq_getElem hlt
    have hdr : l.drop i = l[i] :: l.drop (i + 1) := List.drop_eq_getElem_cons hlt
    have htk : l.take (i + 1) = l.take i ++ [l[i]] := List.take_succ_eq_append_getElem hlt
    refine ifD_of (fun c2 => ?_) (fun c2 => ?_)
    · have hm0 : m = 0 := by omega
      subst hm0
      rw [firstW_zero, List.append_nil] at e1
      refine hl.cut rfl (by omega) (Nat.zero_le _) (by omega) (fun K h => h) (fun K h => h) fun u hu => hQ u ?_
      rw [e1]; simpa using hu
    · obtain ⟨m', rfl⟩ : ∃ m', m = m' + 1 := ⟨m - 1, by omega⟩
      rw [hdr] at e1
      generalize l[i] = s at *
      refine hl.at rfl hx fun p cs hp hr => ?_
      obtain ⟨u, rfl, hu⟩ := hr
      refine hp.fld1 (by simp) fun p1 hp1 => hp1.load rfl ?_
      try simp only [sv_cons, sv_cons1, sc_cons, sc_cons1, asB_bool, ifB_true, ifB_false, un_not, bin_lss, bin_leq, bin_gtr, bin_geq, bin_eql, bin_neq, bin_add, bin_sub, bin_mul, ok_int, ok_bool, ok_slice, ok_str, ok_ptr, ok_map, ok_func, ok_iface, ok_nil, List.all_cons, List.all_nil, Bool.and_true, Bool.true_and, seg, setSeg, List.drop_succ_cons, List.drop_zero, List.take_succ_cons, List.take_zero, List.cons_append, List.nil_append, List.append_nil, List.length_cons, List.length_nil, List.drop_nil, List.size_toArray, Nat.reduceAdd, Nat.reduceLeDiff, Nat.reduceBEq, Nat.zero_add, Nat.le_refl, decide_true, mkV, List.headD_cons, cellsV, w_fldV, w_ext, w_fldP, List.getElem?_toArray, List.getElem?_cons_zero, List.getElem?_cons_succ, beq_self_eq_true, selV]
      refine join_of (fun st H1 => H1 = H' ∧ st = [[.int .i64 (many - ((if s.kind = 2 then m' else m' + 1 : Nat) : Int))]]) (fun K hK => ?_) ?_
      · refine ifD_of (fun c3 => ?_) (fun c3 => ?_)
        · rw [wrap_i64 (by unfold i64; omega)]
          refine hK _ _ ⟨rfl, ?_⟩
          rw [if_pos c3]
          simp only [List.cons.injEq, Value.int.injEq, true_and, and_true]
          omega
        · exact hK _ _ ⟨rfl, by rw [if_neg c3]⟩
      rintro st H1 ⟨rfl, rfl⟩
      try simp only [sv_cons, sv_cons1, sc_cons, sc_cons1, asB_bool, ifB_true, ifB_false, un_not, bin_lss, bin_leq, bin_gtr, bin_geq, bin_eql, bin_neq, bin_add, bin_sub, bin_mul, ok_int, ok_bool, ok_slice, ok_str, ok_ptr, ok_map, ok_func, ok_iface, ok_nil, List.all_cons, List.all_nil, Bool.and_true, Bool.true_and, seg, setSeg, List.drop_succ_cons, List.drop_zero, List.take_succ_cons, List.take_zero, List.cons_append, List.nil_append, List.append_nil, List.length_cons, List.length_nil, List.drop_nil, List.size_toArray, Nat.reduceAdd, Nat.reduceLeDiff, Nat.reduceBEq, Nat.zero_add, Nat.le_refl, decide_true, mkV, List.headD_cons, cellsV, w_fldV, w_ext, w_fldP, List.getElem?_toArray, List.getElem?_cons_zero, List.getElem?_cons_succ, beq_self_eq_true, selV]
      rw [wrap_i64 (by unfold i64; omega)]
      refine hK _ _ hlt ⟨rfl, (if s.kind = 2 then m' else m' + 1), by split <;> omega, by simp, ?_, by split <;> omega⟩
      rw [e1, htk]
      simp [firstW]
  · have hie : i = l.length := by omega
    subst hie
    rw [List.take_length, List.drop_length] at e1
    have e1' : firstW l many.toNat = l := by rw [e1]; cases m <;> simp [firstW]
    exact hQ x (by rw [e1']; exact hl)

theorem c_ref13_has {level k : Int} {d : Dv} {v : Value} (hv : Sl rBys H A v d) (hQ : ∀ H', G H H' → Q (.bool (hasBk d level k)) H') :
    callV Try.prog (fnV fn_ref13_has) [.agg #[v], .int .i64 level, .int .i64 k] H Q := by
  apply S_ref13_has_of
  unfold S_ref13_has
  refine newT_of fun H1 g1 _ => ?_
  have hv := hv.g g1
  have no : ¬ ((0 ≤ level ∧ level < d.length) ∧ 1 ≤ k ∧ k ≤ (lvlOf d level).length) → hasBk d level k = false := fun hn => by
    rw [← Bool.not_eq_true, hasBk_iff]; exact hn
  refine join_of (fun s H2 => H2 = H1 ∧ s = [[.bool (hasBk d level k)]]) (fun K hK => ?_) ?_
  · try simp only [sv_cons, sv_cons1, sc_cons, sc_cons1, asB_bool, ifB_true, ifB_false, un_not, bin_lss, bin_leq, bin_gtr, bin_geq, bin_eql, bin_neq, bin_add, bin_sub, bin_mul, ok_int, ok_bool, ok_slice, ok_str, ok_ptr, ok_map, ok_func, ok_iface, ok_nil, List.all_cons, List.all_nil, Bool.and_true, Bool.true_and, seg, setSeg, List.drop_succ_cons, List.drop_zero, List.take_succ_cons, List.take_zero, List.cons_append, List.nil_append, List.append_nil, List.length_cons, List.length_nil, List.drop_nil, List.size_toArray, Nat.reduceAdd, Nat.reduceLeDiff, Nat.reduceBEq, Nat.zero_add, Nat.le_refl, decide_true, mkV, List.headD_cons, cellsV, w_fldV, w_ext, w_fldP, List.getElem?_toArray, List.getElem?_cons_zero, List.getElem?_cons_succ, beq_self_eq_true, selV]
    refine ifD_of (fun c1 => ?_) (fun c1 => hK _ _ ⟨rfl, by rw [no (by omega)]⟩)
    refine hv.len ?_
    try simp only [sv_cons, sv_cons1, sc_cons, sc_cons1, asB_bool, ifB_true, ifB_false, un_not, bin_lss, bin_leq, bin_gtr, bin_geq, bin_eql, bin_neq, bin_add, bin_sub, bin_mul, ok_int, ok_bool, ok_slice, ok_str, ok_ptr, ok_map, ok_func, ok_iface, ok_nil, List.all_cons, List.all_nil, Bool.and_true, Bool.true_and, seg, setSeg, List.drop_succ_cons, List.drop_zero, List.take_succ_cons, List.take_zero, List.cons_append, List.nil_append, List.append_nil, List.length_cons, List.length_nil, List.drop_nil, List.size_toArray, Nat.reduceAdd, Nat.reduceLeDiff, Nat.reduceBEq, Nat.zero_add, Nat.le_refl, decide_true, mkV, List.headD_cons, cellsV, w_fldV, w_ext, w_fldP, List.getElem?_toArray, List.getElem?_cons_zero, List.getElem?_cons_succ, beq_self_eq_true, selV]
    refine ifD_of (fun c2 => ?_) (fun c2 => hK _ _ ⟨rfl, by rw [no (by omega)]⟩)
    refine ifD_of (fun c3 => ?_) (fun c3 => hK _ _ ⟨rfl, by rw [no (by omega)]⟩)
    refine hv.getSZ c1 (lvl_get ⟨c1, c2⟩) fun w hw => hw.len ?_
    try simp only [sv_cons, sv_cons1, sc_cons, sc_cons1, asB_bool, ifB_true, ifB_false, un_not, bin_lss, bin_leq, bin_gtr, bin_geq, bin_eql, bin_neq, bin_add, bin_sub, bin_mul, ok_int, ok_bool, ok_slice, ok_str, ok_ptr, ok_map, ok_func, ok_iface, ok_nil, List.all_cons, List.all_nil, Bool.and_true, Bool.true_and, seg, setSeg, List.drop_succ_cons, List.drop_zero, List.take_succ_cons, List.take_zero, List.cons_append, List.nil_append, List.append_nil, List.length_cons, List.length_nil, List.drop_nil, List.size_toArray, Nat.reduceAdd, Nat.reduceLeDiff, Nat.reduceBEq, Nat.zero_add, Nat.le_refl, decide_true, mkV, List.headD_cons, cellsV, w_fldV, w_ext, w_fldP, List.getElem?_toArray, List.getElem?_cons_zero, List.getElem?_cons_succ, beq_self_eq_true, selV]
    refine hK _ _ ⟨rfl, ?_⟩
    by_cases c4 : k ≤ (lvlOf d level).length
    · rw [hasBk_iff.2 ⟨⟨c1, c2⟩, c3, c4⟩]; simp [c4]
    · rw [no (by omega)]; simp [c4]
  rintro s H2 ⟨rfl, rfl⟩
  try simp only [sv_cons, sv_cons1, sc_cons, sc_cons1, asB_bool, ifB_true, ifB_false, un_not, bin_lss, bin_leq, bin_gtr, bin_geq, bin_eql, bin_neq, bin_add, bin_sub, bin_mul, ok_int, ok_bool, ok_slice, ok_str, ok_ptr, ok_map, ok_func, ok_iface, ok_nil, List.all_cons, List.all_nil, Bool.and_true, Bool.true_and, seg, setSeg, List.drop_succ_cons, List.drop_zero, List.take_succ_cons, List.take_zero, List.cons_append, List.nil_append, List.append_nil, List.length_cons, List.length_nil, List.drop_nil, List.size_toArray, Nat.reduceAdd, Nat.reduceLeDiff, Nat.reduceBEq, Nat.zero_add, Nat.le_refl, decide_true, mkV, List.headD_cons, cellsV, w_fldV, w_ext, w_fldP, List.getElem?_toArray, List.getElem?_cons_zero, List.getElem?_cons_succ, beq_self_eq_true, selV]
  exact hQ _ g1

theorem c_ref13_May {x v : Value} {d : Dv} {l : List See} {h : Hm} (hv : Sl rBys H A v d) (hl : Sl rSee H B x l) (hn : l.length ≤ 10000) (hby : ∀ s ∈ l, s.bytes.length ≤ 140737488355328) (hh : h.ok) (hd : Mid d)
    (hQ : ∀ H', G H H' → Q (.bool (mayH d l h)) H') : callV Try.prog (fnV fn_ref13_May) [.agg #[v], x, .agg (cHm h).toArray] H Q := by
  apply S_ref13_May_of
  unfold S_ref13_May
  obtain ⟨hk, hlev, hha, hhb, hat, hmk⟩ := hh
  refine newT_of fun H1 g1 _ => newT_of fun H2 g2 _ => ?_
  have g := g1.trans g2
  have hv := hv.g g
  have hl := hl.g g
  try simp only [sv_cons, sv_cons1, sc_cons, sc_cons1, asB_bool, ifB_true, ifB_false, un_not, bin_lss, bin_leq, bin_gtr, bin_geq, bin_eql, bin_neq, bin_add, bin_sub, bin_mul, ok_int, ok_bool, ok_slice, ok_str, ok_ptr, ok_map, ok_func, ok_iface, ok_nil, List.all_cons, List.all_nil, Bool.and_true, Bool.true_and, seg, setSeg, List.drop_succ_cons, List.drop_zero, List.take_succ_cons, List.take_zero, List.cons_append, List.nil_append, List.append_nil, List.length_cons, List.length_nil, List.drop_nil, List.size_toArray, Nat.reduceAdd, Nat.reduceLeDiff, Nat.reduceBEq, Nat.zero_add, Nat.le_refl, decide_true, mkV, List.headD_cons, cellsV, w_fldV, w_ext, w_fldP, List.getElem?_toArray, List.getElem?_cons_zero, List.getElem?_cons_succ, beq_self_eq_true, selV]
  unfold mayH at hQ
  refine ifD_of (fun k5 => ?_) (fun k5 => ?_)
  · rw [if_pos k5] at hQ
    refine join_of (fun s H' => H' = H2 ∧ s = [[.bool (decide (0 ≤ h.at' ∧ h.at' ≤ writesN l))]]) (fun K hK => ?_) ?_
    · refine ifD_of (fun c1 => ?_) (fun c1 => hK _ _ ⟨rfl, jb_f (by omega)⟩)
      refine c_ref13_Writes hl (by omega) ?_
      try simp only [sv_cons, sv_cons1, sc_cons, sc_cons1, asB_bool, ifB_true, ifB_false, un_not, bin_lss, bin_leq, bin_gtr, bin_geq, bin_eql, bin_neq, bin_add, bin_sub, bin_mul, ok_int, ok_bool, ok_slice, ok_str, ok_ptr, ok_map, ok_func, ok_iface, ok_nil, List.all_cons, List.all_nil, Bool.and_true, Bool.true_and, seg, setSeg, List.drop_succ_cons, List.drop_zero, List.take_succ_cons, List.take_zero, List.cons_append, List.nil_append, List.append_nil, List.length_cons, List.length_nil, List.drop_nil, List.size_toArray, Nat.reduceAdd, Nat.reduceLeDiff, Nat.reduceBEq, Nat.zero_add, Nat.le_refl, decide_true, mkV, List.headD_cons, cellsV, w_fldV, w_ext, w_fldP, List.getElem?_toArray, List.getElem?_cons_zero, List.getElem?_cons_succ, beq_self_eq_true, selV]
      exact hK _ _ ⟨rfl, jb_d (by omega)⟩
    rintro s H' ⟨rfl, rfl⟩
    try simp only [sv_cons, sv_cons1, sc_cons, sc_cons1, asB_bool, ifB_true, ifB_false, un_not, bin_lss, bin_leq, bin_gtr, bin_geq, bin_eql, bin_neq, bin_add, bin_sub, bin_mul, ok_int, ok_bool, ok_slice, ok_str, ok_ptr, ok_map, ok_func, ok_iface, ok_nil, List.all_cons, List.all_nil, Bool.and_true, Bool.true_and, seg, setSeg, List.drop_succ_cons, List.drop_zero, List.take_succ_cons, List.take_zero, List.cons_append, List.nil_append, List.append_nil, List.length_cons, List.length_nil, List.drop_nil, List.size_toArray, Nat.reduceAdd, Nat.reduceLeDiff, Nat.reduceBEq, Nat.zero_add, Nat.le_refl, decide_true, mkV, List.headD_cons, cellsV, w_fldV, w_ext, w_fldP, List.getElem?_toArray, List.getElem?_cons_zero, List.getElem?_cons_succ, beq_self_eq_true, selV]
    exact hQ _ g
  rw [if_neg k5] at hQ
  refine join_of (fun s H' => G H2 H' ∧ s = [[.bool (decide (h.kind < 1 ∨ h.kind > 5 ∨ hasBk d h.level h.a = false))]]) (fun K hK => ?_) ?_
  · refine ifD_of (fun c1 => hK _ _ ⟨G.fr (Fr.refl _ _), jb_t (.inl c1)⟩) (fun c1 => ?_)
    refine ifD_of (fun c2 => hK _ _ ⟨G.fr (Fr.refl _ _), jb_t (.inr (.inl c2))⟩) (fun c2 => ?_)
    refine c_ref13_has hv fun H3 g3 => ?_
    try simp only [sv_cons, sv_cons1, sc_cons, sc_cons1, asB_bool, ifB_true, ifB_false, un_not, bin_lss, bin_leq, bin_gtr, bin_geq, bin_eql, bin_neq, bin_add, bin_sub, bin_mul, ok_int, ok_bool, ok_slice, ok_str, ok_ptr, ok_map, ok_func, ok_iface, ok_nil, List.all_cons, List.all_nil, Bool.and_true, Bool.true_and, seg, setSeg, List.drop_succ_cons, List.drop_zero, List.take_succ_cons, List.take_zero, List.cons_append, List.nil_append, List.append_nil, List.length_cons, List.length_nil, List.drop_nil, List.size_toArray, Nat.reduceAdd, Nat.reduceLeDiff, Nat.reduceBEq, Nat.zero_add, Nat.le_refl, decide_true, mkV, List.headD_cons, cellsV, w_fldV, w_ext, w_fldP, List.getElem?_toArray, List.getElem?_cons_zero, List.getElem?_cons_succ, beq_self_eq_true, selV]
    refine hK _ _ ⟨g3, ?_⟩
    cases hb : hasBk d h.level h.a <;> simp [c1, c2]
  rintro s H3 ⟨g3, rfl⟩
  have g := g.trans g3
  have hv := hv.g g3
  have hl := hl.g g3
  try simp only [sv_cons, sv_cons1, sc_cons, sc_cons1, asB_bool, ifB_true, ifB_false, un_not, bin_lss, bin_leq, bin_gtr, bin_geq, bin_eql, bin_neq, bin_add, bin_sub, bin_mul, ok_int, ok_bool, ok_slice, ok_str, ok_ptr, ok_map, ok_func, ok_iface, ok_nil, List.all_cons, List.all_nil, Bool.and_true, Bool.true_and, seg, setSeg, List.drop_succ_cons, List.drop_zero, List.take_succ_cons, List.take_zero, List.cons_append, List.nil_append, List.append_nil, List.length_cons, List.length_nil, List.drop_nil, List.size_toArray, Nat.reduceAdd, Nat.reduceLeDiff, Nat.reduceBEq, Nat.zero_add, Nat.le_refl, decide_true, mkV, List.headD_cons, cellsV, w_fldV, w_ext, w_fldP, List.getElem?_toArray, List.getElem?_cons_zero, List.getElem?_cons_succ, beq_self_eq_true, selV]
  refine ifD_of (fun c1 => ?_) (fun c1 => ?_)
  · rw [if_pos c1] at hQ
    exact hQ _ g
  rw [if_neg c1] at hQ
  have hb : hasBk d h.level h.a = true := by
    cases hb : hasBk d h.level h.a
    · exact absurd (.inr (.inr hb)) c1
    · rfl
  obtain ⟨q1, q2⟩ := hasBk_iff.1 hb
  refine c_ref13_Versions hl hn hby fun vo bo vs F H4 hc => ?_
  have g := g.trans hc.g
  have hv := hv.g hc.g
  have hle := hc.leaves.1
  have hvl := versL_len (l := l) (level := h.level) (b := h.a)
  refine hc.own.len ?_
  try simp only [sv_cons, sv_cons1, sc_cons, sc_cons1, asB_bool, ifB_true, ifB_false, un_not, bin_lss, bin_leq, bin_gtr, bin_geq, bin_eql, bin_neq, bin_add, bin_sub, bin_mul, ok_int, ok_bool, ok_slice, ok_str, ok_ptr, ok_map, ok_func, ok_iface, ok_nil, List.all_cons, List.all_nil, Bool.and_true, Bool.true_and, seg, setSeg, List.drop_succ_cons, List.drop_zero, List.take_succ_cons, List.take_zero, List.cons_append, List.nil_append, List.append_nil, List.length_cons, List.length_nil, List.drop_nil, List.size_toArray, Nat.reduceAdd, Nat.reduceLeDiff, Nat.reduceBEq, Nat.zero_add, Nat.le_refl, decide_true, mkV, List.headD_cons, cellsV, w_fldV, w_ext, w_fldP, List.getElem?_toArray, List.getElem?_cons_zero, List.getElem?_cons_succ, beq_self_eq_true, selV]
  rw [hle]
  refine ifD_of (fun k1 => ?_) (fun k1 => ?_)
  · rw [if_pos k1] at hQ
    refine join_of (fun s H' => H' = H4 ∧ s = [[.bool (decide (0 ≤ h.at' ∧ h.at' < (bk d h.level h.a).length ∧ h.mask ≠ 0))]]) (fun K hK => ?_) ?_
    · refine ifD_of (fun c1 => ?_) (fun c1 => hK _ _ ⟨rfl, jb_f (by omega)⟩)
      refine hv.getSZ q1.1 (lvl_get q1) fun w hw => ?_
      try simp only [sv_cons, sv_cons1, sc_cons, sc_cons1, asB_bool, ifB_true, ifB_false, un_not, bin_lss, bin_leq, bin_gtr, bin_geq, bin_eql, bin_neq, bin_add, bin_sub, bin_mul, ok_int, ok_bool, ok_slice, ok_str, ok_ptr, ok_map, ok_func, ok_iface, ok_nil, List.all_cons, List.all_nil, Bool.and_true, Bool.true_and, seg, setSeg, List.drop_succ_cons, List.drop_zero, List.take_succ_cons, List.take_zero, List.cons_append, List.nil_append, List.append_nil, List.length_cons, List.length_nil, List.drop_nil, List.size_toArray, Nat.reduceAdd, Nat.reduceLeDiff, Nat.reduceBEq, Nat.zero_add, Nat.le_refl, decide_true, mkV, List.headD_cons, cellsV, w_fldV, w_ext, w_fldP, List.getElem?_toArray, List.getElem?_cons_zero, List.getElem?_cons_succ, beq_self_eq_true, selV]
      have hlen := hd.2 (lvlOf d h.level) (List.mem_of_getElem? (lvl_get q1))
      rw [wrap_i64 (by unfold i64; omega)]
      refine hw.getSZ (by omega) (bk_get q2) fun u hu => hu.len ?_
      try simp only [sv_cons, sv_cons1, sc_cons, sc_cons1, asB_bool, ifB_true, ifB_false, un_not, bin_lss, bin_leq, bin_gtr, bin_geq, bin_eql, bin_neq, bin_add, bin_sub, bin_mul, ok_int, ok_bool, ok_slice, ok_str, ok_ptr, ok_map, ok_func, ok_iface, ok_nil, List.all_cons, List.all_nil, Bool.and_true, Bool.true_and, seg, setSeg, List.drop_succ_cons, List.drop_zero, List.take_succ_cons, List.take_zero, List.cons_append, List.nil_append, List.append_nil, List.length_cons, List.length_nil, List.drop_nil, List.size_toArray, Nat.reduceAdd, Nat.reduceLeDiff, Nat.reduceBEq, Nat.zero_add, Nat.le_refl, decide_true, mkV, List.headD_cons, cellsV, w_fldV, w_ext, w_fldP, List.getElem?_toArray, List.getElem?_cons_zero, List.getElem?_cons_succ, beq_self_eq_true, selV]
      refine ifD_of (fun c2 => ?_) (fun c2 => hK _ _ ⟨rfl, jb_f (by omega)⟩)
      exact hK _ _ ⟨rfl, jb_d (by omega)⟩
    rintro s H' ⟨rfl, rfl⟩
    try simp only [sv_cons, sv_cons1, sc_cons, sc_cons1, asB_bool, ifB_true, ifB_false, un_not, bin_lss, bin_leq, bin_gtr, bin_geq, bin_eql, bin_neq, bin_add, bin_sub, bin_mul, ok_int, ok_bool, ok_slice, ok_str, ok_ptr, ok_map, ok_func, ok_iface, ok_nil, List.all_cons, List.all_nil, Bool.and_true, Bool.true_and, seg, setSeg, List.drop_succ_cons, List.drop_zero, List.take_succ_cons, List.take_zero, List.cons_append, List.nil_append, List.append_nil, List.length_cons, List.length_nil, List.drop_nil, List.size_toArray, Nat.reduceAdd, Nat.reduceLeDiff, Nat.reduceBEq, Nat.zero_add, Nat.le_refl, decide_true, mkV, List.headD_cons, cellsV, w_fldV, w_ext, w_fldP, List.getElem?_toArray, List.getElem?_cons_zero, List.getElem?_cons_succ, beq_self_eq_true, selV]
    exact hQ _ g
  rw [if_neg k1] at hQ
  refine ifD_of (fun k2 => ?_) (fun k2 => ?_)
  · rw [if_pos k2] at hQ
    refine c_ref13_has hv fun H5 g5 => ?_
    exact hQ _ (g.trans g5)
  rw [if_neg k2] at hQ
  refine ifD_of (fun k3 => ?_) (fun k3 => ?_)
  · rw [if_pos k3] at hQ
    refine join_of (fun s H' => H' = H4 ∧ s = [[.bool (decide (0 ≤ h.at' ∧ h.at' < (versL l h.level h.a).length))]]) (fun K hK => ?_) ?_
    · refine ifD_of (fun c1 => ?_) (fun c1 => hK _ _ ⟨rfl, jb_f (by omega)⟩)
      exact hK _ _ ⟨rfl, jb_d (by omega)⟩
    rintro s H' ⟨rfl, rfl⟩
    try simp only [sv_cons, sv_cons1, sc_cons, sc_cons1, asB_bool, ifB_true, ifB_false, un_not, bin_lss, bin_leq, bin_gtr, bin_geq, bin_eql, bin_neq, bin_add, bin_sub, bin_mul, ok_int, ok_bool, ok_slice, ok_str, ok_ptr, ok_map, ok_func, ok_iface, ok_nil, List.all_cons, List.all_nil, Bool.and_true, Bool.true_and, seg, setSeg, List.drop_succ_cons, List.drop_zero, List.take_succ_cons, List.take_zero, List.cons_append, List.nil_append, List.append_nil, List.length_cons, List.length_nil, List.drop_nil, List.size_toArray, Nat.reduceAdd, Nat.reduceLeDiff, Nat.reduceBEq, Nat.zero_add, Nat.le_refl, decide_true, mkV, List.headD_cons, cellsV, w_fldV, w_ext, w_fldP, List.getElem?_toArray, List.getElem?_cons_zero, List.getElem?_cons_succ, beq_self_eq_true, selV]
    exact hQ _ g
  rw [if_neg k3] at hQ
  have := hQ _ g
  have e : decide ((((versL l h.level h.a).length : Nat) : Int) > 0) = decide (0 < (versL l h.level h.a).length) := by
    by_cases hh : 0 < (versL l h.level h.a).length <;> simp [hh]
  first | exact this | (rw [← e] at this; exact this)

theorem put_put {d : Dv} {level k : Int} {x y : By} (hl : 0 ≤ level ∧ level < d.length) : putB (putB d level k x) level k y = putB d level k y := by
  have e := lvlOf_put (b := k) (x := x) hl
  have e1 : putB (putB d level k x) level k y = (putB d level k x).set level.toNat ((lvlOf (putB d level k x) level).set (k - 1).toNat y) := rfl
  rw [e1, e]
  unfold putB
  rw [List.set_set, List.set_set]

theorem c_ref13_Done {c : Cfg} {x a : Value} {d : Dv} {l : List See} {h : Hm} (ha : Sl rBys H A a d) (hl : Sl rSee H B x l) (hs2 : l.length ≤ 10000) (hs : SeesOk l) (hh : h.ok) (hd : Mid d) (hr : repE c d l = 0) (hm : mayH d l h = true)
    (hQ : ∀ v H', Sl rBys H' (fun y => H.size ≤ y) v (doneH c d l h) → G H H' → Q (.agg #[v]) H') : callV Try.prog (fnV fn_ref13_Done) [.agg (cCfg c).toArray, .agg #[a], x, .agg (cHm h).toArray] H Q := by
  apply S_ref13_Done_of
  unfold S_ref13_Done
  have ha := ha.old
  have hl := hl.old
  obtain ⟨hk, hlev, hha, hhb, hat, hmk⟩ := hh
  obtain ⟨hmay, hok⟩ := rep_zero hr
  have hcm := may_may hmay
  have hby : ∀ s ∈ l, s.bytes.length ≤ 1000000 := fun s hm => seeOk_len hd (hok s hm)
  refine newT_of fun H1 g1 _ => newT_of fun H2 g2 _ => newT_of fun H3 g3 _ => newT_of fun H4 g4 _ => ?_
  have g := ((g1.trans g2).trans g3).trans g4
  try simp only [sv_cons, sv_cons1, sc_cons, sc_cons1, asB_bool, ifB_true, ifB_false, un_not, bin_lss, bin_leq, bin_gtr, bin_geq, bin_eql, bin_neq, bin_add, bin_sub, bin_mul, ok_int, ok_bool, ok_slice, ok_str, ok_ptr, ok_map, ok_func, ok_iface, ok_nil, List.all_cons, List.all_nil, Bool.and_true, Bool.true_and, seg, setSeg, List.drop_succ_cons, List.drop_zero, List.take_succ_cons, List.take_zero, List.cons_append, List.nil_append, List.append_nil, List.length_cons, List.length_nil, List.drop_nil, List.size_toArray, Nat.reduceAdd, Nat.reduceLeDiff, Nat.reduceBEq, Nat.zero_add, Nat.le_refl, decide_true, mkV, List.headD_cons, cellsV, w_fldV, w_ext, w_fldP, List.getElem?_toArray, List.getElem?_cons_zero, List.getElem?_cons_succ, beq_self_eq_true, selV]
  unfold mayH at hm
  refine ifD_of (fun k5 => ?_) (fun k5 => ?_)
  · rw [if_pos k5] at hm
    have hm := of_decide_eq_true hm
    refine c_ref12_Blank hcm.1 fun v5 H5 hv5 g5 => ?_
    refine c_ref13_First (hl.g (g.trans g5)) (by omega) hm.1 fun w hw => ?_
    have hsl := firstW_len (l := l) (n := h.at'.toNat)
    obtain ⟨_, hokb⟩ := rep_zero (rep_blank hr h.at'.toNat)
    refine c_ref12_Behind hv5 hw (mid_blank' hcm) (by omega) hokb (fun s hs' => hby s (firstW_sub s hs')) (fun s hs' => hs.r64 s (firstW_sub s hs')) fun v6 H6 hv6 g6 => ?_
    try simp only [sv_cons, sv_cons1, sc_cons, sc_cons1, asB_bool, ifB_true, ifB_false, un_not, bin_lss, bin_leq, bin_gtr, bin_geq, bin_eql, bin_neq, bin_add, bin_sub, bin_mul, ok_int, ok_bool, ok_slice, ok_str, ok_ptr, ok_map, ok_func, ok_iface, ok_nil, List.all_cons, List.all_nil, Bool.and_true, Bool.true_and, seg, setSeg, List.drop_succ_cons, List.drop_zero, List.take_succ_cons, List.take_zero, List.cons_append, List.nil_append, List.append_nil, List.length_cons, List.length_nil, List.drop_nil, List.size_toArray, Nat.reduceAdd, Nat.reduceLeDiff, Nat.reduceBEq, Nat.zero_add, Nat.le_refl, decide_true, mkV, List.headD_cons, cellsV, w_fldV, w_ext, w_fldP, List.getElem?_toArray, List.getElem?_cons_zero, List.getElem?_cons_succ, beq_self_eq_true, selV, hv6.okcv]
    refine hQ v6 H6 ?_ ((g.trans g5).trans g6)
    unfold doneH
    rw [if_pos k5]
    exact hv6.mono fun y hy _ => by have := (g.trans g5).size; omega
  rw [if_neg k5] at hm
  have hb : hasBk d h.level h.a = true := by
    cases hb : hasBk d h.level h.a
    · rw [if_pos (.inr (.inr hb))] at hm; cases hm
    · rfl
  have hbad : ¬ (h.kind < 1 ∨ h.kind > 5 ∨ hasBk d h.level h.a = false) := fun hn => by rw [if_pos hn] at hm; cases hm
  rw [if_neg hbad] at hm
  obtain ⟨q1, q2⟩ := hasBk_iff.1 hb
  have hlen := hd.2 (lvlOf d h.level) (List.mem_of_getElem? (lvl_get q1))
  refine c_ref12_TwinX (ha.g g) hd fun v H5 hc5 => ?_
  obtain ⟨O, F, bo, bs, vs, hx, hOF⟩ := hc5.out
  have gs := g.size
  have g := g.trans hc5.g
  refine newT_of fun H6 g6 s6 => ?_
  have hx := hx.g g6
  have g := g.trans g6
  try simp only [sv_cons, sv_cons1, sc_cons, sc_cons1, asB_bool, ifB_true, ifB_false, un_not, bin_lss, bin_leq, bin_gtr, bin_geq, bin_eql, bin_neq, bin_add, bin_sub, bin_mul, ok_int, ok_bool, ok_slice, ok_str, ok_ptr, ok_map, ok_func, ok_iface, ok_nil, List.all_cons, List.all_nil, Bool.and_true, Bool.true_and, seg, setSeg, List.drop_succ_cons, List.drop_zero, List.take_succ_cons, List.take_zero, List.cons_append, List.nil_append, List.append_nil, List.length_cons, List.length_nil, List.drop_nil, List.size_toArray, Nat.reduceAdd, Nat.reduceLeDiff, Nat.reduceBEq, Nat.zero_add, Nat.le_refl, decide_true, mkV, List.headD_cons, cellsV, w_fldV, w_ext, w_fldP, List.getElem?_toArray, List.getElem?_cons_zero, List.getElem?_cons_succ, beq_self_eq_true, selV, hc5.okcv]
  refine (hx.dv.path hb).1 _ _ fun p hp => hp.load rfl ?_
  try simp only [sv_cons, sv_cons1, sc_cons, sc_cons1, asB_bool, ifB_true, ifB_false, un_not, bin_lss, bin_leq, bin_gtr, bin_geq, bin_eql, bin_neq, bin_add, bin_sub, bin_mul, ok_int, ok_bool, ok_slice, ok_str, ok_ptr, ok_map, ok_func, ok_iface, ok_nil, List.all_cons, List.all_nil, Bool.and_true, Bool.true_and, seg, setSeg, List.drop_succ_cons, List.drop_zero, List.take_succ_cons, List.take_zero, List.cons_append, List.nil_append, List.append_nil, List.length_cons, List.length_nil, List.drop_nil, List.size_toArray, Nat.reduceAdd, Nat.reduceLeDiff, Nat.reduceBEq, Nat.zero_add, Nat.le_refl, decide_true, mkV, List.headD_cons, cellsV, w_fldV, w_ext, w_fldP, List.getElem?_toArray, List.getElem?_cons_zero, List.getElem?_cons_succ, beq_self_eq_true, selV]
  refine c_ref13_Versions (hl.g g) hs2 (fun s hm => by have := hby s hm; omega) fun vo bo' ws F1 H7 hcl => ?_
  have hx := hx.g hcl.g
  have hs5 := hc5.g.size
  have hs6 := g6.size
  have hs7 := hcl.g.size
  have g := g.trans hcl.g
  have hF1 := hcl.freshF
  have hfr1 := hcl.fresh
  have hlen1 := hcl.leaves.1
  have hvl := versL_len (l := l) (level := h.level) (b := h.a)
  have no : ∀ y, y < H.size → ¬ O y := fun y hy hO => by have := (hOF y (.inl hO)).1; omega
  have e1 : i64 (h.a - 1) := by unfold i64; omega
  have pA := (hx.dv.path hb).2.1
  try simp only [sv_cons, sv_cons1, sc_cons, sc_cons1, asB_bool, ifB_true, ifB_false, un_not, bin_lss, bin_leq, bin_gtr, bin_geq, bin_eql, bin_neq, bin_add, bin_sub, bin_mul, ok_int, ok_bool, ok_slice, ok_str, ok_ptr, ok_map, ok_func, ok_iface, ok_nil, List.all_cons, List.all_nil, Bool.and_true, Bool.true_and, seg, setSeg, List.drop_succ_cons, List.drop_zero, List.take_succ_cons, List.take_zero, List.cons_append, List.nil_append, List.append_nil, List.length_cons, List.length_nil, List.drop_nil, List.size_toArray, Nat.reduceAdd, Nat.reduceLeDiff, Nat.reduceBEq, Nat.zero_add, Nat.le_refl, decide_true, mkV, List.headD_cons, cellsV, w_fldV, w_ext, w_fldP, List.getElem?_toArray, List.getElem?_cons_zero, List.getElem?_cons_succ, beq_self_eq_true, selV]
  refine join_of (fun s H' => (∃ F', DvR H' O F' bo bs v vs (doneH c d l h) ∧ ∀ y, F' y → H.size ≤ y) ∧ G H H') (fun K hK => ?_) ?_
  rotate_left
  · rintro s H' ⟨⟨F', hx', hF'⟩, g'⟩
    try simp only [sv_cons, sv_cons1, sc_cons, sc_cons1, asB_bool, ifB_true, ifB_false, un_not, bin_lss, bin_leq, bin_gtr, bin_geq, bin_eql, bin_neq, bin_add, bin_sub, bin_mul, ok_int, ok_bool, ok_slice, ok_str, ok_ptr, ok_map, ok_func, ok_iface, ok_nil, List.all_cons, List.all_nil, Bool.and_true, Bool.true_and, seg, setSeg, List.drop_succ_cons, List.drop_zero, List.take_succ_cons, List.take_zero, List.cons_append, List.nil_append, List.append_nil, List.length_cons, List.length_nil, List.drop_nil, List.size_toArray, Nat.reduceAdd, Nat.reduceLeDiff, Nat.reduceBEq, Nat.zero_add, Nat.le_refl, decide_true, mkV, List.headD_cons, cellsV, w_fldV, w_ext, w_fldP, List.getElem?_toArray, List.getElem?_cons_zero, List.getElem?_cons_succ, beq_self_eq_true, selV, hx'.dv.okcv]
    exact hQ v H' (hx'.dv.sl fun y hy => hy.elim (fun hO => by have := (hOF y (.inl hO)).1; omega) (hF' y)) g'
  refine ifD_of (fun k1 => ?_) (fun k1 => ?_)
  · rw [if_pos k1] at hm
    have hyes := of_decide_eq_true hm
    obtain ⟨u, bu, hat', hou, hbu, hturn⟩ := hx.leaf hb
    rw [wrap_i64 e1]
    refine pA _ _ (hat'.load rfl ?_)
    try simp only [sv_cons, sv_cons1, sc_cons, sc_cons1, asB_bool, ifB_true, ifB_false, un_not, bin_lss, bin_leq, bin_gtr, bin_geq, bin_eql, bin_neq, bin_add, bin_sub, bin_mul, ok_int, ok_bool, ok_slice, ok_str, ok_ptr, ok_map, ok_func, ok_iface, ok_nil, List.all_cons, List.all_nil, Bool.and_true, Bool.true_and, seg, setSeg, List.drop_succ_cons, List.drop_zero, List.take_succ_cons, List.take_zero, List.cons_append, List.nil_append, List.append_nil, List.length_cons, List.length_nil, List.drop_nil, List.size_toArray, Nat.reduceAdd, Nat.reduceLeDiff, Nat.reduceBEq, Nat.zero_add, Nat.le_refl, decide_true, mkV, List.headD_cons, cellsV, w_fldV, w_ext, w_fldP, List.getElem?_toArray, List.getElem?_cons_zero, List.getElem?_cons_succ, beq_self_eq_true, selV]
    refine pA _ _ (hat'.load rfl ?_)
    try simp only [sv_cons, sv_cons1, sc_cons, sc_cons1, asB_bool, ifB_true, ifB_false, un_not, bin_lss, bin_leq, bin_gtr, bin_geq, bin_eql, bin_neq, bin_add, bin_sub, bin_mul, ok_int, ok_bool, ok_slice, ok_str, ok_ptr, ok_map, ok_func, ok_iface, ok_nil, List.all_cons, List.all_nil, Bool.and_true, Bool.true_and, seg, setSeg, List.drop_succ_cons, List.drop_zero, List.take_succ_cons, List.take_zero, List.cons_append, List.nil_append, List.append_nil, List.length_cons, List.length_nil, List.drop_nil, List.size_toArray, Nat.reduceAdd, Nat.reduceLeDiff, Nat.reduceBEq, Nat.zero_add, Nat.le_refl, decide_true, mkV, List.headD_cons, cellsV, w_fldV, w_ext, w_fldP, List.getElem?_toArray, List.getElem?_cons_zero, List.getElem?_cons_succ, beq_self_eq_true, selV]
    have hlt : h.at'.toNat < (bk d h.level h.a).length := by omega
    have hx0 : (bk d h.level h.a)[h.at'.toNat]? = some (bk d h.level h.a)[h.at'.toNat] := List.getElem?_eq_getElem hlt
    have hat0 : h.at' = ((h.at'.toNat : Nat) : Int) := by omega
    have hmk0 : h.mask = ((h.mask.toNat : Nat) : Int) := by omega
    rw [hat0]
    refine (hou.slF (A' := fun _ => True) fun _ _ => trivial).getB hx0 ?_
    rw [hmk0, w_xor (by show _ < 256; exact UInt8.toNat_lt _) (by show _ < 256; omega)]
    have hfl : flipAt (bk d h.level h.a) h.at'.toNat h.mask = (bk d h.level h.a).set h.at'.toNat (UInt8.ofNat ((bk d h.level h.a)[h.at'.toNat].toNat ^^^ h.mask.toNat)) := by
      unfold flipAt; rw [List.getD_eq_getElem?_getD, hx0]; rfl
    have hxl : (bk d h.level h.a)[h.at'.toNat].toNat ^^^ h.mask.toNat < 256 := Nat.xor_lt_two_pow (n := 8) (UInt8.toNat_lt _) (by omega)
    refine hou.put (n := 1) (x := UInt8.ofNat ((bk d h.level h.a)[h.at'.toNat].toNat ^^^ h.mask.toNat)) ⟨[.int .u8 ((UInt8.ofNat ((bk d h.level h.a)[h.at'.toNat].toNat ^^^ h.mask.toNat)).toNat : Int)], by rw [toNat8 hxl]; rfl, rfl, trivial⟩ rfl (fun _ => rfl) hlt (fun y hy _ => hy.elim) fun H12 ho12 f12 s12 => ?_
    have hdone : doneH c d l h = putB d h.level h.a ((bk d h.level h.a).set h.at'.toNat (UInt8.ofNat ((bk d h.level h.a)[h.at'.toNat].toNat ^^^ h.mask.toNat))) := by
      unfold doneH; rw [if_neg k5, if_pos k1, hfl]
    have hbl : ∀ y, y + 1 = bu → H.size ≤ y := fun y hy => by have := (hOF y (.inr (hbu y hy.symm))).1; omega
    refine hK _ _ ⟨⟨F, ?_, fun y hy => by have := hOF y (.inr hy); omega⟩, g.then f12 fun y hy e => by have := hbl _ e; omega⟩
    rw [hdone]
    exact hturn H12 _ ho12 f12
  rw [if_neg k1] at hm
  refine join_of (fun s H' => (∃ F', DvR H' O F' bo bs v vs (doneH c d l h) ∧ ∀ y, F' y → H.size ≤ y) ∧ G H H') (fun K2 hK2 => ?_) fun s H' h => hK _ _ h
  refine ifD_of (fun k2 => ?_) (fun k2 => ?_)
  · rw [if_pos k2] at hm
    obtain ⟨q3, q4⟩ := hasBk_iff.1 hm
    have e2 : i64 (h.b - 1) := by unfold i64; omega
    have pB := (hx.dv.path hm).2.1
    obtain ⟨⟨u1, hu1, hf1⟩, _, _, hput1⟩ := hx.dv.cell hb
    obtain ⟨⟨u2, hu2, hf2⟩, _, _, _⟩ := hx.dv.cell hm
    rw [wrap_i64 e1]
    refine pA _ _ (hu1.load rfl ?_)
    try simp only [sv_cons, sv_cons1, sc_cons, sc_cons1, asB_bool, ifB_true, ifB_false, un_not, bin_lss, bin_leq, bin_gtr, bin_geq, bin_eql, bin_neq, bin_add, bin_sub, bin_mul, ok_int, ok_bool, ok_slice, ok_str, ok_ptr, ok_map, ok_func, ok_iface, ok_nil, List.all_cons, List.all_nil, Bool.and_true, Bool.true_and, seg, setSeg, List.drop_succ_cons, List.drop_zero, List.take_succ_cons, List.take_zero, List.cons_append, List.nil_append, List.append_nil, List.length_cons, List.length_nil, List.drop_nil, List.size_toArray, Nat.reduceAdd, Nat.reduceLeDiff, Nat.reduceBEq, Nat.zero_add, Nat.le_refl, decide_true, mkV, List.headD_cons, cellsV, w_fldV, w_ext, w_fldP, List.getElem?_toArray, List.getElem?_cons_zero, List.getElem?_cons_succ, beq_self_eq_true, selV]
    rw [wrap_i64 e2]
    refine pB _ _ (hu2.load rfl ?_)
    try simp only [sv_cons, sv_cons1, sc_cons, sc_cons1, asB_bool, ifB_true, ifB_false, un_not, bin_lss, bin_leq, bin_gtr, bin_geq, bin_eql, bin_neq, bin_add, bin_sub, bin_mul, ok_int, ok_bool, ok_slice, ok_str, ok_ptr, ok_map, ok_func, ok_iface, ok_nil, List.all_cons, List.all_nil, Bool.and_true, Bool.true_and, seg, setSeg, List.drop_succ_cons, List.drop_zero, List.take_succ_cons, List.take_zero, List.cons_append, List.nil_append, List.append_nil, List.length_cons, List.length_nil, List.drop_nil, List.size_toArray, Nat.reduceAdd, Nat.reduceLeDiff, Nat.reduceBEq, Nat.zero_add, Nat.le_refl, decide_true, mkV, List.headD_cons, cellsV, w_fldV, w_ext, w_fldP, List.getElem?_toArray, List.getElem?_cons_zero, List.getElem?_cons_succ, beq_self_eq_true, selV]
    refine pA _ _ (hput1 u2 _ _ hf2 fun H13 hx13 f13 s13 => ?_)
    obtain ⟨_, _, _, hput3⟩ := hx13.cell (hasBk_put hm)
    have hdis := hx.dis
    refine pB _ _ (hput3 u1 _ _ (hf1.up f13 fun y hy _ => ⟨fun hO => hdis y hO hy, hy⟩) fun H14 hx14 f14 s14 => ?_)
    have hdone : doneH c d l h = putB (putB d h.level h.a (bk d h.level h.b)) h.level h.b (bk d h.level h.a) := by
      unfold doneH; rw [if_neg k5, if_neg k1, if_pos k2]
    refine hK2 _ _ ⟨⟨F, by rw [hdone]; exact hx14, fun y hy => by have := hOF y (.inr hy); omega⟩, (g.then f13 fun y hy => no y (by omega)).then f14 fun y hy => no y (by omega)⟩
  rw [if_neg k2] at hm
  have hwid : ∀ {H' : Heap} {d' : Dv} {F2 : Nat → Prop}, DvR H' O F bo bs v vs d' → (∀ y, F2 y → ¬ O y) → DvR H' O (fun y => F y ∨ F2 y) bo bs v vs d' := fun h hF => h.wider (fun y hy => .inl hy) fun y hO hy => hy.elim (hx.dis y hO) fun h2 => hF y h2 hO
  have hF1O : ∀ y, F1 y → ¬ O y := fun y hy hO => by have := hF1 y hy; have := hOF y (.inl hO); omega
  refine join_of (fun s H' => (∃ F', DvR H' O F' bo bs v vs (doneH c d l h) ∧ ∀ y, F' y → H.size ≤ y) ∧ G H H') (fun K3 hK3 => ?_) fun s H' h => hK2 _ _ h
  refine ifD_of (fun k3 => ?_) (fun k3 => ?_)
  · rw [if_pos k3] at hm
    have hyes := of_decide_eq_true hm
    rw [wrap_i64 e1]
    have hxlt : h.at'.toNat < (versL l h.level h.a).length := by omega
    have hx2 := List.getElem?_eq_getElem hxlt
    obtain ⟨u, hu, hul⟩ := hcl.leaves.get hx2
    have hat0 : h.at' = ((h.at'.toNat : Nat) : Int) := by omega
    rw [hat0]
    refine (hcl.own.slF (A' := fun _ => True) fun _ _ => trivial).getV hu ?_
    obtain ⟨_, _, _, hput2⟩ := (hwid hx.dv hF1O).cell hb
    refine pA _ _ (hput2 u _ _ (hul.fr fun y hy _ => ⟨.inr hy, rfl⟩) fun H13 hx13 f13 s13 => ?_)
    have hdone : doneH c d l h = putB d h.level h.a (versL l h.level h.a)[h.at'.toNat] := by
      unfold doneH; rw [if_neg k5, if_neg k1, if_neg k2, if_pos k3, List.getD_eq_getElem?_getD, hx2]; rfl
    refine hK3 _ _ ⟨⟨_, by rw [hdone]; exact hx13, fun y hy => ?_⟩, g.then f13 fun y hy => no y (by omega)⟩
    rcases hy with hy | hy
    · have := hOF y (.inr hy); omega
    · have := hF1 y hy; omega
  rw [if_neg k3] at hm
  have hyes := of_decide_eq_true hm
  have k4 : h.kind = 4 := by omega
  refine join_of (fun s H' => (∃ F', DvR H' O F' bo bs v vs (doneH c d l h) ∧ ∀ y, F' y → H.size ≤ y) ∧ G H H') (fun K4 hK4 => ?_) fun s H' h => hK3 _ _ h
  rw [decide_eq_true k4]
  try simp only [sv_cons, sv_cons1, sc_cons, sc_cons1, asB_bool, ifB_true, ifB_false, un_not, bin_lss, bin_leq, bin_gtr, bin_geq, bin_eql, bin_neq, bin_add, bin_sub, bin_mul, ok_int, ok_bool, ok_slice, ok_str, ok_ptr, ok_map, ok_func, ok_iface, ok_nil, List.all_cons, List.all_nil, Bool.and_true, Bool.true_and, seg, setSeg, List.drop_succ_cons, List.drop_zero, List.take_succ_cons, List.take_zero, List.cons_append, List.nil_append, List.append_nil, List.length_cons, List.length_nil, List.drop_nil, List.size_toArray, Nat.reduceAdd, Nat.reduceLeDiff, Nat.reduceBEq, Nat.zero_add, Nat.le_refl, decide_true, mkV, List.headD_cons, cellsV, w_fldV, w_ext, w_fldP, List.getElem?_toArray, List.getElem?_cons_zero, List.getElem?_cons_succ, beq_self_eq_true, selV]
  rw [wrap_i64 e1]
  obtain ⟨⟨u, hu, hul⟩, _, _, _⟩ := hx.dv.cell hb
  refine pA _ _ (hu.load rfl ?_)
  try simp only [sv_cons, sv_cons1, sc_cons, sc_cons1, asB_bool, ifB_true, ifB_false, un_not, bin_lss, bin_leq, bin_gtr, bin_geq, bin_eql, bin_neq, bin_add, bin_sub, bin_mul, ok_int, ok_bool, ok_slice, ok_str, ok_ptr, ok_map, ok_func, ok_iface, ok_nil, List.all_cons, List.all_nil, Bool.and_true, Bool.true_and, seg, setSeg, List.drop_succ_cons, List.drop_zero, List.take_succ_cons, List.take_zero, List.cons_append, List.nil_append, List.append_nil, List.length_cons, List.length_nil, List.drop_nil, List.size_toArray, Nat.reduceAdd, Nat.reduceLeDiff, Nat.reduceBEq, Nat.zero_add, Nat.le_refl, decide_true, mkV, List.headD_cons, cellsV, w_fldV, w_ext, w_fldP, List.getElem?_toArray, List.getElem?_cons_zero, List.getElem?_cons_succ, beq_self_eq_true, selV]
  have hbkl : (bk d h.level h.a).length ≤ 1000000 := hlen.2 _ (List.mem_of_getElem? (bk_get q2))
  refine hul.1.len ?_
  refine mk_zero (R := rU8) (x := 0) (A := fun _ => False) ⟨rfl, trivial⟩ rfl (by omega) (by omega) (by omega) fun t H12 ht g12 s12 => ?_
  have ht := ht.mono (A' := fun _ => False) fun y hy _ => by simp at hy
  refine ⟨(hu.g g12).load rfl rfl, ?_⟩
  have hx := hx.g g12
  have hF2O : ∀ y, (F1 y ∨ y + 1 = H7.size + 1) → ¬ O y := fun y hy hO => by
    have := hOF y (.inl hO)
    rcases hy with hy | hy
    · have := hF1 y hy; omega
    · omega
  obtain ⟨_, _, _, hput2⟩ := (hwid hx.dv hF2O).cell hb
  refine pA _ _ (hput2 t _ _ ((Ow.lf ht).fr fun y hy _ => ⟨.inr (.inr hy), rfl⟩) fun H13 hx13 f13 s13 => ?_)
  have hfin : ∀ {H' : Heap} {x : By}, DvR H' O (fun y => F y ∨ (F1 y ∨ y + 1 = H7.size + 1)) bo bs v vs (putB d h.level h.a x) → dropTo (versL l h.level h.a) (bk d h.level h.a).length = x →
      ∃ F', DvR H' O F' bo bs v vs (doneH c d l h) ∧ ∀ y, F' y → H.size ≤ y := fun hx' e => ⟨_, by
        have hdone : doneH c d l h = putB d h.level h.a (dropTo (versL l h.level h.a) (bk d h.level h.a).length) := by
          unfold doneH; rw [if_neg k5, if_neg k1, if_neg k2, if_neg k3]
        rw [hdone, e]; exact hx', fun y hy => by
          rcases hy with hy | hy | hy
          · have := hOF y (.inr hy); omega
          · have := hF1 y hy; omega
          · omega⟩
  have gg := (g.trans g12).then f13 fun y hy => no y (by omega)
  refine hcl.own.len ?_
  try simp only [sv_cons, sv_cons1, sc_cons, sc_cons1, asB_bool, ifB_true, ifB_false, un_not, bin_lss, bin_leq, bin_gtr, bin_geq, bin_eql, bin_neq, bin_add, bin_sub, bin_mul, ok_int, ok_bool, ok_slice, ok_str, ok_ptr, ok_map, ok_func, ok_iface, ok_nil, List.all_cons, List.all_nil, Bool.and_true, Bool.true_and, seg, setSeg, List.drop_succ_cons, List.drop_zero, List.take_succ_cons, List.take_zero, List.cons_append, List.nil_append, List.append_nil, List.length_cons, List.length_nil, List.drop_nil, List.size_toArray, Nat.reduceAdd, Nat.reduceLeDiff, Nat.reduceBEq, Nat.zero_add, Nat.le_refl, decide_true, mkV, List.headD_cons, cellsV, w_fldV, w_ext, w_fldP, List.getElem?_toArray, List.getElem?_cons_zero, List.getElem?_cons_succ, beq_self_eq_true, selV]
  rw [hlen1]
  refine join_of (fun s H' => (∃ F', DvR H' O F' bo bs v vs (doneH c d l h) ∧ ∀ y, F' y → H.size ≤ y) ∧ G H H') (fun K5 hK5 => ?_) fun s H' h => hK4 _ _ h
  refine ifD_of (fun c1 => ?_) (fun c1 => ?_)
  · refine hcl.own.len ?_
    try simp only [sv_cons, sv_cons1, sc_cons, sc_cons1, asB_bool, ifB_true, ifB_false, un_not, bin_lss, bin_leq, bin_gtr, bin_geq, bin_eql, bin_neq, bin_add, bin_sub, bin_mul, ok_int, ok_bool, ok_slice, ok_str, ok_ptr, ok_map, ok_func, ok_iface, ok_nil, List.all_cons, List.all_nil, Bool.and_true, Bool.true_and, seg, setSeg, List.drop_succ_cons, List.drop_zero, List.take_succ_cons, List.take_zero, List.cons_append, List.nil_append, List.append_nil, List.length_cons, List.length_nil, List.drop_nil, List.size_toArray, Nat.reduceAdd, Nat.reduceLeDiff, Nat.reduceBEq, Nat.zero_add, Nat.le_refl, decide_true, mkV, List.headD_cons, cellsV, w_fldV, w_ext, w_fldP, List.getElem?_toArray, List.getElem?_cons_zero, List.getElem?_cons_succ, beq_self_eq_true, selV]
    rw [hlen1, wrap_i64 (by unfold i64; omega), show (((versL l h.level h.a).length : Nat) : Int) - 2 = (((versL l h.level h.a).length - 2 : Nat) : Int) by omega]
    have hxlt : (versL l h.level h.a).length - 2 < (versL l h.level h.a).length := by omega
    have hx2 := List.getElem?_eq_getElem hxlt
    obtain ⟨u, hu, hul⟩ := hcl.leaves.get hx2
    have hfO : ∀ y, y + 1 = bo' → ¬ O y := fun y hy hO => by have := hOF y (.inl hO); omega
    have hcl2 : Ow rV H13 bo' (fun _ => False) vo ws := (hcl.own.g g12).upF f13 fun k hk => hfO k hk.symm
    refine (hcl2.slF (A' := fun _ => True) fun _ _ => trivial).getV hu ?_
    obtain ⟨_, _, _, hput4⟩ := hx13.cell (hasBk_put hb)
    refine pA _ _ (hput4 u _ _ (((hul.up g12 (F' := F1) fun y hy _ => ⟨trivial, hy⟩).up f13 fun y hy _ => ⟨hF1O y hy, .inr (.inl hy)⟩)) fun H14 hx14 f14 s14 => hK5 _ _ ⟨hfin (x := (versL l h.level h.a)[(versL l h.level h.a).length - 2]) ?_ ?_, gg.then f14 fun y hy => no y (by omega)⟩)
    · rw [put_put q1] at hx14; exact hx14
    · unfold dropTo; rw [if_pos (by omega), List.getD_eq_getElem?_getD, hx2]; rfl
  · refine hK5 _ _ ⟨hfin hx13 ?_, gg⟩
    unfold dropTo; rw [if_neg (by omega)]

theorem c_ref13_Do {c : Cfg} {x a : Value} {d : Dv} {l : List See} {h : Hm} (ha : Sl rBys H A a d) (hl : Sl rSee H B x l) (hs2 : l.length ≤ 10000) (hs : SeesOk l) (hh : h.ok) (hd : Mid d)
    (hQ : ∀ v H', Sl rBys H' (fun y => H.size ≤ y) v (doD c d l h) → G H H' → Q (tup2 (.agg #[v]) (.int .i64 (doE c d l h))) H') : callV Try.prog (fnV fn_ref13_Do) [.agg (cCfg c).toArray, .agg #[a], x, .agg (cHm h).toArray] H Q := by
  apply S_ref13_Do_of
  unfold S_ref13_Do
  have ha := ha.old
  have hl := hl.old
  refine newT_of fun H1 g1 _ => newT_of fun H2 g2 _ => newT_of fun H3 g3 _ => newT_of fun H4 g4 _ => ?_
  have g := ((g1.trans g2).trans g3).trans g4
  refine c_ref12_Replay (ha.g g) (hl.g g) hd hs fun v5 H5 hv5 g5 => ?_
  try simp only [sv_cons, sv_cons1, sc_cons, sc_cons1, asB_bool, ifB_true, ifB_false, un_not, bin_lss, bin_leq, bin_gtr, bin_geq, bin_eql, bin_neq, bin_add, bin_sub, bin_mul, ok_int, ok_bool, ok_slice, ok_str, ok_ptr, ok_map, ok_func, ok_iface, ok_nil, List.all_cons, List.all_nil, Bool.and_true, Bool.true_and, seg, setSeg, List.drop_succ_cons, List.drop_zero, List.take_succ_cons, List.take_zero, List.cons_append, List.nil_append, List.append_nil, List.length_cons, List.length_nil, List.drop_nil, List.size_toArray, Nat.reduceAdd, Nat.reduceLeDiff, Nat.reduceBEq, Nat.zero_add, Nat.le_refl, decide_true, mkV, List.headD_cons, cellsV, w_fldV, w_ext, w_fldP, List.getElem?_toArray, List.getElem?_cons_zero, List.getElem?_cons_succ, beq_self_eq_true, selV]
  refine newT_of fun H6 g6 _ => ?_
  have g := (g.trans g5).trans g6
  try simp only [sv_cons, sv_cons1, sc_cons, sc_cons1, asB_bool, ifB_true, ifB_false, un_not, bin_lss, bin_leq, bin_gtr, bin_geq, bin_eql, bin_neq, bin_add, bin_sub, bin_mul, ok_int, ok_bool, ok_slice, ok_str, ok_ptr, ok_map, ok_func, ok_iface, ok_nil, List.all_cons, List.all_nil, Bool.and_true, Bool.true_and, seg, setSeg, List.drop_succ_cons, List.drop_zero, List.take_succ_cons, List.take_zero, List.cons_append, List.nil_append, List.append_nil, List.length_cons, List.length_nil, List.drop_nil, List.size_toArray, Nat.reduceAdd, Nat.reduceLeDiff, Nat.reduceBEq, Nat.zero_add, Nat.le_refl, decide_true, mkV, List.headD_cons, cellsV, w_fldV, w_ext, w_fldP, List.getElem?_toArray, List.getElem?_cons_zero, List.getElem?_cons_succ, beq_self_eq_true, selV, hv5.okcv]
  refine ifD_of (fun hr => ?_) (fun hr => ?_)
  · have he : doE c d l h = repE c d l := by unfold doE; rw [if_pos hr]
    have := hQ (.slice none 0 0) H6 (by unfold doD; rw [he, if_neg hr]; exact Sl.nil _ _ _ _ _) g
    rw [he] at this
    exact this
  have hr : repE c d l = 0 := Decidable.not_not.1 hr
  obtain ⟨hmay, hok⟩ := rep_zero hr
  refine c_ref13_May (ha.g g) (hl.g g) hs2 (fun s hm => by have := seeOk_len hd (hok s hm); omega) hh hd fun H7 g7 => ?_
  have g := g.trans g7
  try simp only [sv_cons, sv_cons1, sc_cons, sc_cons1, asB_bool, ifB_true, ifB_false, un_not, bin_lss, bin_leq, bin_gtr, bin_geq, bin_eql, bin_neq, bin_add, bin_sub, bin_mul, ok_int, ok_bool, ok_slice, ok_str, ok_ptr, ok_map, ok_func, ok_iface, ok_nil, List.all_cons, List.all_nil, Bool.and_true, Bool.true_and, seg, setSeg, List.drop_succ_cons, List.drop_zero, List.take_succ_cons, List.take_zero, List.cons_append, List.nil_append, List.append_nil, List.length_cons, List.length_nil, List.drop_nil, List.size_toArray, Nat.reduceAdd, Nat.reduceLeDiff, Nat.reduceBEq, Nat.zero_add, Nat.le_refl, decide_true, mkV, List.headD_cons, cellsV, w_fldV, w_ext, w_fldP, List.getElem?_toArray, List.getElem?_cons_zero, List.getElem?_cons_succ, beq_self_eq_true, selV]
  cases hm : mayH d l h
  · try simp only [sv_cons, sv_cons1, sc_cons, sc_cons1, asB_bool, ifB_true, ifB_false, un_not, bin_lss, bin_leq, bin_gtr, bin_geq, bin_eql, bin_neq, bin_add, bin_sub, bin_mul, ok_int, ok_bool, ok_slice, ok_str, ok_ptr, ok_map, ok_func, ok_iface, ok_nil, List.all_cons, List.all_nil, Bool.and_true, Bool.true_and, seg, setSeg, List.drop_succ_cons, List.drop_zero, List.take_succ_cons, List.take_zero, List.cons_append, List.nil_append, List.append_nil, List.length_cons, List.length_nil, List.drop_nil, List.size_toArray, Nat.reduceAdd, Nat.reduceLeDiff, Nat.reduceBEq, Nat.zero_add, Nat.le_refl, decide_true, mkV, List.headD_cons, cellsV, w_fldV, w_ext, w_fldP, List.getElem?_toArray, List.getElem?_cons_zero, List.getElem?_cons_succ, beq_self_eq_true, selV, Bool.not_false]
    have he : doE c d l h = 2 := by unfold doE; rw [if_neg (by omega), hm]; rfl
    have := hQ (.slice none 0 0) H7 (by unfold doD; rw [he]; exact Sl.nil _ _ _ _ _) g
    rw [he] at this
    exact this
  · try simp only [sv_cons, sv_cons1, sc_cons, sc_cons1, asB_bool, ifB_true, ifB_false, un_not, bin_lss, bin_leq, bin_gtr, bin_geq, bin_eql, bin_neq, bin_add, bin_sub, bin_mul, ok_int, ok_bool, ok_slice, ok_str, ok_ptr, ok_map, ok_func, ok_iface, ok_nil, List.all_cons, List.all_nil, Bool.and_true, Bool.true_and, seg, setSeg, List.drop_succ_cons, List.drop_zero, List.take_succ_cons, List.take_zero, List.cons_append, List.nil_append, List.append_nil, List.length_cons, List.length_nil, List.drop_nil, List.size_toArray, Nat.reduceAdd, Nat.reduceLeDiff, Nat.reduceBEq, Nat.zero_add, Nat.le_refl, decide_true, mkV, List.headD_cons, cellsV, w_fldV, w_ext, w_fldP, List.getElem?_toArray, List.getElem?_cons_zero, List.getElem?_cons_succ, beq_self_eq_true, selV, Bool.not_true]
    have he : doE c d l h = 0 := by unfold doE; rw [if_neg (by omega), hm]; rfl
    refine c_ref13_Done (ha.g g) (hl.g g) hs2 hs hh hd hr hm fun v8 H8 hv8 g8 => ?_
    try simp only [sv_cons, sv_cons1, sc_cons, sc_cons1, asB_bool, ifB_true, ifB_false, un_not, bin_lss, bin_leq, bin_gtr, bin_geq, bin_eql, bin_neq, bin_add, bin_sub, bin_mul, ok_int, ok_bool, ok_slice, ok_str, ok_ptr, ok_map, ok_func, ok_iface, ok_nil, List.all_cons, List.all_nil, Bool.and_true, Bool.true_and, seg, setSeg, List.drop_succ_cons, List.drop_zero, List.take_succ_cons, List.take_zero, List.cons_append, List.nil_append, List.append_nil, List.length_cons, List.length_nil, List.drop_nil, List.size_toArray, Nat.reduceAdd, Nat.reduceLeDiff, Nat.reduceBEq, Nat.zero_add, Nat.le_refl, decide_true, mkV, List.headD_cons, cellsV, w_fldV, w_ext, w_fldP, List.getElem?_toArray, List.getElem?_cons_zero, List.getElem?_cons_succ, beq_self_eq_true, selV, hv8.okcv]
    have := hQ v8 H8 (by unfold doD; rw [if_pos he]; exact hv8.mono fun y hy _ => by have := g.size; omega) (g.trans g8)
    rw [he] at this
    exact this

end Go.Proofs.Ytelfpkegpffajaa
