/- Contracts: the devices of the program. -/
import Derived.Test.YtlalkgkicccjiaaConRef12c
namespace Go.Proofs.Ytlalkgkicccjiaa
open Go.Ab Go.Md
set_option linter.unusedVariables false
set_option linter.unusedSimpArgs false
set_option maxRecDepth 20000

variable {H : Heap} {Q : Value → Heap → Prop} {A B C : Nat → Prop}

/-! ### Clones -/

/-- A clone: nothing, or fresh bytes. -/
theorem c_Clone {x : Value} {bs : By} (hx : Sl rU8 H A x bs) (hl : bs.length ≤ 1000000) (hQ : ∀ u H' b, Ow rU8 H' b (fun _ => False) u bs → G H H' → (b = 0 ∨ H.size < b) → Q u H') : callV Try.prog (fnV fn_slices_Clone_byte_byte) [x] H Q := by
  apply S_slices_Clone_byte_byte_of
  unfold S_slices_Clone_byte_byte
  have h0 := hx
  obtain ⟨a, cap, css, rfl, h2, h3, h4⟩ := hx
  simp only [binV, binR]
  refine ifB_of (fun ha => ?_) (fun ha => ?_)
  · have : bs = [] := by
      rcases h4 with h | ⟨b, o, rfl, _⟩
      · exact h
      · cases ha
    subst this
    exact hQ _ H 0 (Ow.nil _ _ _) (G.fr (Fr.refl _ _)) (.inl rfl)
  · exact clone_of h0 rfl hl fun u H' b ho g hb hb' => hQ u H' b ho g (.inr hb)

theorem c_each1 {a : Value} {xs : List By} (ha : Sl rBy H A a xs) (hl : xs.length ≤ 10000) (hl2 : ∀ x ∈ xs, x.length ≤ 1000000) (hQ : ∀ v b vs F H', Cl H H' v b vs F xs → Q v H') : callV Try.prog (fnV fn_dev_each_byte_byte_1) [a, fnV fn_slices_Clone_byte_byte] H Q := by
  apply S_dev_each_byte_byte_1_of
  unfold S_dev_each_byte_byte_1
  refine ha.len ?_
  refine loop_up xs.length (fun i s H' => ∃ v b vs F, Cl H H' v b vs F (xs.take i) ∧ s = [[v], [.int .i64 (i : Int)]]) ⟨_, _, _, _, by simpa using Cl.nil (G.fr (Fr.refl _ H)), rfl⟩ ?_
  rintro i s H' K hi ⟨v, b, vs, F, hc, rfl⟩ hK
  try simp only [sv_cons, sv_cons1, sc_cons, sc_cons1, asB_bool, ifB_true, ifB_false, un_not, bin_lss, bin_leq, bin_gtr, bin_geq, bin_eql, bin_neq, bin_add, bin_sub, bin_mul, ok_int, ok_bool, ok_slice, ok_str, ok_ptr, ok_map, ok_func, ok_iface, ok_nil, List.all_cons, List.all_nil, Bool.and_true, Bool.true_and, seg, setSeg, List.drop_succ_cons, List.drop_zero, List.take_succ_cons, List.take_zero, List.cons_append, List.nil_append, List.append_nil, List.length_cons, List.length_nil, List.drop_nil, List.size_toArray, Nat.reduceAdd, Nat.reduceLeDiff, Nat.reduceBEq, Nat.zero_add, Nat.le_refl, decide_true, mkV, List.headD_cons, cellsV, w_fldV, w_ext, w_fldP, List.getElem?_toArray, List.getElem?_cons_zero, List.getElem?_cons_succ, beq_self_eq_true, selV]
  refine ifD_of (fun h1 => ?_) (fun h1 => ?_)
  · have hlt : i < xs.length := by omega
    have hx : xs[i]? = some xs[i] := List.getElem?_eq_getElem hlt
    have htk : (xs.take i).length = i := by rw [List.length_take]; omega
    refine (ha.g hc.g).getS hx fun u hu => c_Clone hu (hl2 _ (List.getElem_mem hlt)) fun w H2 bw hw g2 hb => ?_
    refine hc.push g2 hw hb rfl rfl (by rw [htk]; omega) (by rw [htk]; omega) fun v' H3 b' hc' _ _ => ?_
    try simp only [sv_cons, sv_cons1, sc_cons, sc_cons1, asB_bool, ifB_true, ifB_false, un_not, bin_lss, bin_leq, bin_gtr, bin_geq, bin_eql, bin_neq, bin_add, bin_sub, bin_mul, ok_int, ok_bool, ok_slice, ok_str, ok_ptr, ok_map, ok_func, ok_iface, ok_nil, List.all_cons, List.all_nil, Bool.and_true, Bool.true_and, seg, setSeg, List.drop_succ_cons, List.drop_zero, List.take_succ_cons, List.take_zero, List.cons_append, List.nil_append, List.append_nil, List.length_cons, List.length_nil, List.drop_nil, List.size_toArray, Nat.reduceAdd, Nat.reduceLeDiff, Nat.reduceBEq, Nat.zero_add, Nat.le_refl, decide_true, mkV, List.headD_cons, cellsV, w_fldV, w_ext, w_fldP, List.getElem?_toArray, List.getElem?_cons_zero, List.getElem?_cons_succ, beq_self_eq_true, selV]
    rw [wrap_i64 (by unfold i64; omega)]
    exact hK _ _ hlt ⟨v', b', _, _, by rw [List.take_succ_eq_append_getElem hlt]; exact hc', by simp⟩
  · have : i = xs.length := by omega
    subst this
    rw [List.take_length] at hc
    exact hQ v b vs F H' hc

theorem c_each0 {a : Value} {d : Dv} (ha : Sl rBys H A a d) (hd : Mid d) (hQ : ∀ v H', Cd H H' v d → Q v H') : callV Try.prog (fnV fn_dev_each_byte_byte_0) [a, fnV fn_dev_Twin_1] H Q := by
  apply S_dev_each_byte_byte_0_of
  unfold S_dev_each_byte_byte_0
  have hd1 := hd.1
  refine ha.len ?_
  refine loop_up d.length (fun i s H' => ∃ v, Cd H H' v (d.take i) ∧ s = [[v], [.int .i64 (i : Int)]]) ⟨_, by simpa using Cd.nil (G.fr (Fr.refl _ H)), rfl⟩ ?_
  rintro i s H' K hi ⟨v, hc, rfl⟩ hK
  try simp only [sv_cons, sv_cons1, sc_cons, sc_cons1, asB_bool, ifB_true, ifB_false, un_not, bin_lss, bin_leq, bin_gtr, bin_geq, bin_eql, bin_neq, bin_add, bin_sub, bin_mul, ok_int, ok_bool, ok_slice, ok_str, ok_ptr, ok_map, ok_func, ok_iface, ok_nil, List.all_cons, List.all_nil, Bool.and_true, Bool.true_and, seg, setSeg, List.drop_succ_cons, List.drop_zero, List.take_succ_cons, List.take_zero, List.cons_append, List.nil_append, List.append_nil, List.length_cons, List.length_nil, List.drop_nil, List.size_toArray, Nat.reduceAdd, Nat.reduceLeDiff, Nat.reduceBEq, Nat.zero_add, Nat.le_refl, decide_true, mkV, List.headD_cons, cellsV, w_fldV, w_ext, w_fldP, List.getElem?_toArray, List.getElem?_cons_zero, List.getElem?_cons_succ, beq_self_eq_true, selV]
  refine ifD_of (fun h1 => ?_) (fun h1 => ?_)
  · have hlt : i < d.length := by omega
    have hx : d[i]? = some d[i] := List.getElem?_eq_getElem hlt
    have hxs := hd.2 _ (List.getElem_mem hlt)
    have htk : (d.take i).length = i := by rw [List.length_take]; omega
    refine (ha.g hc.g).getS hx fun u hu => ?_
    apply S_dev_Twin_1_of
    unfold S_dev_Twin_1
    refine c_each1 hu (by omega) hxs.2 fun w bw ws F1 H4 hcl => ?_
    refine hc.push hcl rfl rfl (by rw [htk]; omega) (by rw [htk]; omega) fun v' H5 hc' => ?_
    try simp only [sv_cons, sv_cons1, sc_cons, sc_cons1, asB_bool, ifB_true, ifB_false, un_not, bin_lss, bin_leq, bin_gtr, bin_geq, bin_eql, bin_neq, bin_add, bin_sub, bin_mul, ok_int, ok_bool, ok_slice, ok_str, ok_ptr, ok_map, ok_func, ok_iface, ok_nil, List.all_cons, List.all_nil, Bool.and_true, Bool.true_and, seg, setSeg, List.drop_succ_cons, List.drop_zero, List.take_succ_cons, List.take_zero, List.cons_append, List.nil_append, List.append_nil, List.length_cons, List.length_nil, List.drop_nil, List.size_toArray, Nat.reduceAdd, Nat.reduceLeDiff, Nat.reduceBEq, Nat.zero_add, Nat.le_refl, decide_true, mkV, List.headD_cons, cellsV, w_fldV, w_ext, w_fldP, List.getElem?_toArray, List.getElem?_cons_zero, List.getElem?_cons_succ, beq_self_eq_true, selV]
    rw [wrap_i64 (by unfold i64; omega)]
    exact hK _ _ hlt ⟨v', by rw [List.take_succ_eq_append_getElem hlt]; exact hc', by simp⟩
  · have : i = d.length := by omega
    subst this
    rw [List.take_length] at hc
    exact hQ v H' hc

theorem Cd.okcv {H' : Heap} {v : Value} {d : Dv} (h : Cd H H' v d) : okc v = true := by obtain ⟨⟨b, bs, vs, vss, F, h1, _⟩, _⟩ := h; exact h1.outer.okcv

theorem c_dev_Twin {a : Value} {d : Dv} (ha : Sl rBys H A a d) (hd : Mid d) (hQ : ∀ v H', Cd H H' v d → Q (.agg #[v]) H') : callV Try.prog (fnV fn_dev_Twin) [.agg #[a]] H Q := by
  apply S_dev_Twin_of
  unfold S_dev_Twin
  refine newT_of fun H1 g1 _ => newT_of fun H2 g2 _ => c_each0 (ha.g (g1.trans g2)) hd fun v H3 hc => ?_
  try simp only [sv_cons, sv_cons1, sc_cons, sc_cons1, asB_bool, ifB_true, ifB_false, un_not, bin_lss, bin_leq, bin_gtr, bin_geq, bin_eql, bin_neq, bin_add, bin_sub, bin_mul, ok_int, ok_bool, ok_slice, ok_str, ok_ptr, ok_map, ok_func, ok_iface, ok_nil, List.all_cons, List.all_nil, Bool.and_true, Bool.true_and, seg, setSeg, List.drop_succ_cons, List.drop_zero, List.take_succ_cons, List.take_zero, List.cons_append, List.nil_append, List.append_nil, List.length_cons, List.length_nil, List.drop_nil, List.size_toArray, Nat.reduceAdd, Nat.reduceLeDiff, Nat.reduceBEq, Nat.zero_add, Nat.le_refl, decide_true, mkV, List.headD_cons, cellsV, w_fldV, w_ext, w_fldP, List.getElem?_toArray, List.getElem?_cons_zero, List.getElem?_cons_succ, beq_self_eq_true, selV, hc.okcv]
  exact hQ v H3 (hc.of (g1.trans g2))

/-! ### The same -/

/-! ### May a device be? -/

theorem any_step {α : Type} {xs : List α} {p : α → Bool} {i : Nat} (h : ∀ x ∈ xs.take i, p x = false) (hi : xs.length ≤ i) : xs.any p = false := by
  rw [List.take_of_length_le hi] at h
  rw [List.any_eq_false]
  intro x hx; rw [h x hx]; simp

theorem c_Contains_by {a fv : Value} {xs : List By} {p : By → Bool} (ha : Sl rBy H A a xs) (hl : xs.length ≤ 1000000) (hf : ∀ u x (K : Value → Heap → Prop), Sl rU8 H A u x → K (.bool (p x)) H → callV Try.prog fv [u] H K)
    (hQ : Q (.bool (xs.any p)) H) : callV Try.prog (fnV fn_slices_ContainsFunc_byte_byte) [a, fv] H Q := by
  apply S_slices_ContainsFunc_byte_byte_of
  unfold S_slices_ContainsFunc_byte_byte
  apply S_slices_IndexFunc_byte_byte_of
  unfold S_slices_IndexFunc_byte_byte
  refine ha.len ?_
  refine loop_up xs.length (fun i s H' => s = [[.int .i64 (i : Int)]] ∧ H' = H ∧ ∀ x ∈ xs.take i, p x = false) ⟨rfl, rfl, by simp⟩ ?_
  rintro i s H' K hi ⟨rfl, rfl, ht⟩ hK
  try simp only [sv_cons, sv_cons1, sc_cons, sc_cons1, asB_bool, ifB_true, ifB_false, un_not, bin_lss, bin_leq, bin_gtr, bin_geq, bin_eql, bin_neq, bin_add, bin_sub, bin_mul, ok_int, ok_bool, ok_slice, ok_str, ok_ptr, ok_map, ok_func, ok_iface, ok_nil, List.all_cons, List.all_nil, Bool.and_true, Bool.true_and, seg, setSeg, List.drop_succ_cons, List.drop_zero, List.take_succ_cons, List.take_zero, List.cons_append, List.nil_append, List.append_nil, List.length_cons, List.length_nil, List.drop_nil, List.size_toArray, Nat.reduceAdd, Nat.reduceLeDiff, Nat.reduceBEq, Nat.zero_add, Nat.le_refl, decide_true, mkV, List.headD_cons, cellsV, w_fldV, w_ext, w_fldP, List.getElem?_toArray, List.getElem?_cons_zero, List.getElem?_cons_succ, beq_self_eq_true, selV]
  refine ifD_of (fun hlt => ?_) (fun hge => ?_)
  · have hlt : i < xs.length := by omega
    refine ha.getS (List.getElem?_eq_getElem hlt) fun u hu => hf u _ _ hu ?_
    try simp only [sv_cons, sv_cons1, sc_cons, sc_cons1, asB_bool, ifB_true, ifB_false, un_not, bin_lss, bin_leq, bin_gtr, bin_geq, bin_eql, bin_neq, bin_add, bin_sub, bin_mul, ok_int, ok_bool, ok_slice, ok_str, ok_ptr, ok_map, ok_func, ok_iface, ok_nil, List.all_cons, List.all_nil, Bool.and_true, Bool.true_and, seg, setSeg, List.drop_succ_cons, List.drop_zero, List.take_succ_cons, List.take_zero, List.cons_append, List.nil_append, List.append_nil, List.length_cons, List.length_nil, List.drop_nil, List.size_toArray, Nat.reduceAdd, Nat.reduceLeDiff, Nat.reduceBEq, Nat.zero_add, Nat.le_refl, decide_true, mkV, List.headD_cons, cellsV, w_fldV, w_ext, w_fldP, List.getElem?_toArray, List.getElem?_cons_zero, List.getElem?_cons_succ, beq_self_eq_true, selV]
    cases hp : p xs[i] with
    | true =>
      rw [List.any_eq_true.2 ⟨xs[i], List.getElem_mem hlt, hp⟩] at hQ
      try simp only [sv_cons, sv_cons1, sc_cons, sc_cons1, asB_bool, ifB_true, ifB_false, un_not, bin_lss, bin_leq, bin_gtr, bin_geq, bin_eql, bin_neq, bin_add, bin_sub, bin_mul, ok_int, ok_bool, ok_slice, ok_str, ok_ptr, ok_map, ok_func, ok_iface, ok_nil, List.all_cons, List.all_nil, Bool.and_true, Bool.true_and, seg, setSeg, List.drop_succ_cons, List.drop_zero, List.take_succ_cons, List.take_zero, List.cons_append, List.nil_append, List.append_nil, List.length_cons, List.length_nil, List.drop_nil, List.size_toArray, Nat.reduceAdd, Nat.reduceLeDiff, Nat.reduceBEq, Nat.zero_add, Nat.le_refl, decide_true, mkV, List.headD_cons, cellsV, w_fldV, w_ext, w_fldP, List.getElem?_toArray, List.getElem?_cons_zero, List.getElem?_cons_succ, beq_self_eq_true, selV]
      rw [decide_eq_true (by omega)]; exact hQ
    | false =>
      try simp only [sv_cons, sv_cons1, sc_cons, sc_cons1, asB_bool, ifB_true, ifB_false, un_not, bin_lss, bin_leq, bin_gtr, bin_geq, bin_eql, bin_neq, bin_add, bin_sub, bin_mul, ok_int, ok_bool, ok_slice, ok_str, ok_ptr, ok_map, ok_func, ok_iface, ok_nil, List.all_cons, List.all_nil, Bool.and_true, Bool.true_and, seg, setSeg, List.drop_succ_cons, List.drop_zero, List.take_succ_cons, List.take_zero, List.cons_append, List.nil_append, List.append_nil, List.length_cons, List.length_nil, List.drop_nil, List.size_toArray, Nat.reduceAdd, Nat.reduceLeDiff, Nat.reduceBEq, Nat.zero_add, Nat.le_refl, decide_true, mkV, List.headD_cons, cellsV, w_fldV, w_ext, w_fldP, List.getElem?_toArray, List.getElem?_cons_zero, List.getElem?_cons_succ, beq_self_eq_true, selV]
      rw [wrap_succ (by omega)]
      refine hK _ _ hlt ⟨rfl, rfl, fun x hx => ?_⟩
      rw [List.take_succ_eq_append_getElem hlt, List.mem_append, List.mem_singleton] at hx
      rcases hx with h | rfl
      · exact ht x h
      · exact hp
  · rw [any_step ht (by omega)] at hQ
    try simp only [sv_cons, sv_cons1, sc_cons, sc_cons1, asB_bool, ifB_true, ifB_false, un_not, bin_lss, bin_leq, bin_gtr, bin_geq, bin_eql, bin_neq, bin_add, bin_sub, bin_mul, ok_int, ok_bool, ok_slice, ok_str, ok_ptr, ok_map, ok_func, ok_iface, ok_nil, List.all_cons, List.all_nil, Bool.and_true, Bool.true_and, seg, setSeg, List.drop_succ_cons, List.drop_zero, List.take_succ_cons, List.take_zero, List.cons_append, List.nil_append, List.append_nil, List.length_cons, List.length_nil, List.drop_nil, List.size_toArray, Nat.reduceAdd, Nat.reduceLeDiff, Nat.reduceBEq, Nat.zero_add, Nat.le_refl, decide_true, mkV, List.headD_cons, cellsV, w_fldV, w_ext, w_fldP, List.getElem?_toArray, List.getElem?_cons_zero, List.getElem?_cons_succ, beq_self_eq_true, selV]
    exact hQ

theorem c_Contains_int {a fv : Value} {xs : List Int} {p : Int → Bool} (ha : Sl (rI .i64) H A a xs) (hl : xs.length ≤ 1000000) (hf : ∀ x (K : Value → Heap → Prop), K (.bool (p x)) H → callV Try.prog fv [.int .i64 x] H K)
    (hQ : Q (.bool (xs.any p)) H) : callV Try.prog (fnV fn_slices_ContainsFunc_int_int) [a, fv] H Q := by
  apply S_slices_ContainsFunc_int_int_of
  unfold S_slices_ContainsFunc_int_int
  apply S_slices_IndexFunc_int_int_of
  unfold S_slices_IndexFunc_int_int
  refine ha.len ?_
  refine loop_up xs.length (fun i s H' => s = [[.int .i64 (i : Int)]] ∧ H' = H ∧ ∀ x ∈ xs.take i, p x = false) ⟨rfl, rfl, by simp⟩ ?_
  rintro i s H' K hi ⟨rfl, rfl, ht⟩ hK
  try simp only [sv_cons, sv_cons1, sc_cons, sc_cons1, asB_bool, ifB_true, ifB_false, un_not, bin_lss, bin_leq, bin_gtr, bin_geq, bin_eql, bin_neq, bin_add, bin_sub, bin_mul, ok_int, ok_bool, ok_slice, ok_str, ok_ptr, ok_map, ok_func, ok_iface, ok_nil, List.all_cons, List.all_nil, Bool.and_true, Bool.true_and, seg, setSeg, List.drop_succ_cons, List.drop_zero, List.take_succ_cons, List.take_zero, List.cons_append, List.nil_append, List.append_nil, List.length_cons, List.length_nil, List.drop_nil, List.size_toArray, Nat.reduceAdd, Nat.reduceLeDiff, Nat.reduceBEq, Nat.zero_add, Nat.le_refl, decide_true, mkV, List.headD_cons, cellsV, w_fldV, w_ext, w_fldP, List.getElem?_toArray, List.getElem?_cons_zero, List.getElem?_cons_succ, beq_self_eq_true, selV]
  refine ifD_of (fun hlt => ?_) (fun hge => ?_)
  · have hlt : i < xs.length := by omega
    refine ha.getI (List.getElem?_eq_getElem hlt) fun _ => hf _ _ ?_
    try simp only [sv_cons, sv_cons1, sc_cons, sc_cons1, asB_bool, ifB_true, ifB_false, un_not, bin_lss, bin_leq, bin_gtr, bin_geq, bin_eql, bin_neq, bin_add, bin_sub, bin_mul, ok_int, ok_bool, ok_slice, ok_str, ok_ptr, ok_map, ok_func, ok_iface, ok_nil, List.all_cons, List.all_nil, Bool.and_true, Bool.true_and, seg, setSeg, List.drop_succ_cons, List.drop_zero, List.take_succ_cons, List.take_zero, List.cons_append, List.nil_append, List.append_nil, List.length_cons, List.length_nil, List.drop_nil, List.size_toArray, Nat.reduceAdd, Nat.reduceLeDiff, Nat.reduceBEq, Nat.zero_add, Nat.le_refl, decide_true, mkV, List.headD_cons, cellsV, w_fldV, w_ext, w_fldP, List.getElem?_toArray, List.getElem?_cons_zero, List.getElem?_cons_succ, beq_self_eq_true, selV]
    cases hp : p xs[i] with
    | true =>
      rw [List.any_eq_true.2 ⟨xs[i], List.getElem_mem hlt, hp⟩] at hQ
      try simp only [sv_cons, sv_cons1, sc_cons, sc_cons1, asB_bool, ifB_true, ifB_false, un_not, bin_lss, bin_leq, bin_gtr, bin_geq, bin_eql, bin_neq, bin_add, bin_sub, bin_mul, ok_int, ok_bool, ok_slice, ok_str, ok_ptr, ok_map, ok_func, ok_iface, ok_nil, List.all_cons, List.all_nil, Bool.and_true, Bool.true_and, seg, setSeg, List.drop_succ_cons, List.drop_zero, List.take_succ_cons, List.take_zero, List.cons_append, List.nil_append, List.append_nil, List.length_cons, List.length_nil, List.drop_nil, List.size_toArray, Nat.reduceAdd, Nat.reduceLeDiff, Nat.reduceBEq, Nat.zero_add, Nat.le_refl, decide_true, mkV, List.headD_cons, cellsV, w_fldV, w_ext, w_fldP, List.getElem?_toArray, List.getElem?_cons_zero, List.getElem?_cons_succ, beq_self_eq_true, selV]
      rw [decide_eq_true (by omega)]; exact hQ
    | false =>
      try simp only [sv_cons, sv_cons1, sc_cons, sc_cons1, asB_bool, ifB_true, ifB_false, un_not, bin_lss, bin_leq, bin_gtr, bin_geq, bin_eql, bin_neq, bin_add, bin_sub, bin_mul, ok_int, ok_bool, ok_slice, ok_str, ok_ptr, ok_map, ok_func, ok_iface, ok_nil, List.all_cons, List.all_nil, Bool.and_true, Bool.true_and, seg, setSeg, List.drop_succ_cons, List.drop_zero, List.take_succ_cons, List.take_zero, List.cons_append, List.nil_append, List.append_nil, List.length_cons, List.length_nil, List.drop_nil, List.size_toArray, Nat.reduceAdd, Nat.reduceLeDiff, Nat.reduceBEq, Nat.zero_add, Nat.le_refl, decide_true, mkV, List.headD_cons, cellsV, w_fldV, w_ext, w_fldP, List.getElem?_toArray, List.getElem?_cons_zero, List.getElem?_cons_succ, beq_self_eq_true, selV]
      rw [wrap_succ (by omega)]
      refine hK _ _ hlt ⟨rfl, rfl, fun x hx => ?_⟩
      rw [List.take_succ_eq_append_getElem hlt, List.mem_append, List.mem_singleton] at hx
      rcases hx with h | rfl
      · exact ht x h
      · exact hp
  · rw [any_step ht (by omega)] at hQ
    try simp only [sv_cons, sv_cons1, sc_cons, sc_cons1, asB_bool, ifB_true, ifB_false, un_not, bin_lss, bin_leq, bin_gtr, bin_geq, bin_eql, bin_neq, bin_add, bin_sub, bin_mul, ok_int, ok_bool, ok_slice, ok_str, ok_ptr, ok_map, ok_func, ok_iface, ok_nil, List.all_cons, List.all_nil, Bool.and_true, Bool.true_and, seg, setSeg, List.drop_succ_cons, List.drop_zero, List.take_succ_cons, List.take_zero, List.cons_append, List.nil_append, List.append_nil, List.length_cons, List.length_nil, List.drop_nil, List.size_toArray, Nat.reduceAdd, Nat.reduceLeDiff, Nat.reduceBEq, Nat.zero_add, Nat.le_refl, decide_true, mkV, List.headD_cons, cellsV, w_fldV, w_ext, w_fldP, List.getElem?_toArray, List.getElem?_cons_zero, List.getElem?_cons_succ, beq_self_eq_true, selV]
    exact hQ

theorem c_dev_Check_1 {x : Value} {b : Nat} {l : Lvl} {bs : By} (hx : Sl rU8 H A x bs) (hb : Bx H b (cLvl l)) (hl : l.ok) (hQ : Q (.bool ((bs.length : Int) != 8 + l.width)) H) :
    callV Try.prog (.func (.func fn_dev_Check_1) #[] #[.pointer (some ⟨b, 0, none⟩)]) [x] H Q := by
  apply C_dev_Check_1_of
  unfold S_dev_Check_1
  refine hx.len ?_
  try simp only [sv_cons, sv_cons1, sc_cons, sc_cons1, asB_bool, ifB_true, ifB_false, un_not, bin_lss, bin_leq, bin_gtr, bin_geq, bin_eql, bin_neq, bin_add, bin_sub, bin_mul, ok_int, ok_bool, ok_slice, ok_str, ok_ptr, ok_map, ok_func, ok_iface, ok_nil, List.all_cons, List.all_nil, Bool.and_true, Bool.true_and, seg, setSeg, List.drop_succ_cons, List.drop_zero, List.take_succ_cons, List.take_zero, List.cons_append, List.nil_append, List.append_nil, List.length_cons, List.length_nil, List.drop_nil, List.size_toArray, Nat.reduceAdd, Nat.reduceLeDiff, Nat.reduceBEq, Nat.zero_add, Nat.le_refl, decide_true, mkV, List.headD_cons, cellsV, w_fldV, w_ext, w_fldP, List.getElem?_toArray, List.getElem?_cons_zero, List.getElem?_cons_succ, beq_self_eq_true, selV]
  refine hb.loadF (by simp) ?_
  obtain ⟨_, _, _, _, _, _, o3, o4⟩ := hl
  try simp only [sv_cons, sv_cons1, sc_cons, sc_cons1, asB_bool, ifB_true, ifB_false, un_not, bin_lss, bin_leq, bin_gtr, bin_geq, bin_eql, bin_neq, bin_add, bin_sub, bin_mul, ok_int, ok_bool, ok_slice, ok_str, ok_ptr, ok_map, ok_func, ok_iface, ok_nil, List.all_cons, List.all_nil, Bool.and_true, Bool.true_and, seg, setSeg, List.drop_succ_cons, List.drop_zero, List.take_succ_cons, List.take_zero, List.cons_append, List.nil_append, List.append_nil, List.length_cons, List.length_nil, List.drop_nil, List.size_toArray, Nat.reduceAdd, Nat.reduceLeDiff, Nat.reduceBEq, Nat.zero_add, Nat.le_refl, decide_true, mkV, List.headD_cons, cellsV, w_fldV, w_ext, w_fldP, List.getElem?_toArray, List.getElem?_cons_zero, List.getElem?_cons_succ, beq_self_eq_true, selV]
  rw [wrap_i64 (x := 8 + l.width) (by unfold i64; omega)]
  rw [show ((bs.length : Int) != 8 + l.width) = decide ((bs.length : Int) ≠ 8 + l.width) from by by_cases h : (bs.length : Int) = 8 + l.width <;> simp [h]] at hQ
  exact hQ

theorem c_dev_Check {c : Cfg} {a : Value} {d : Dv} (ha : Sl rBys H A a d) (hd : Mid d) (hQ : ∀ H', G H H' → Q (.int .i64 (if may c d then 0 else 8)) H') : callV Try.prog (fnV fn_dev_Check) [.agg (cCfg c).toArray, .agg #[a]] H Q := by
  apply S_dev_Check_of
  unfold S_dev_Check
  refine newT_of fun H1 g1 _ => newT_of fun H2 g2 _ => c_conf_Levels fun v H3 hv g3 => ?_
  have g := (g1.trans g2).trans g3
  try simp only [sv_cons, sv_cons1, sc_cons, sc_cons1, asB_bool, ifB_true, ifB_false, un_not, bin_lss, bin_leq, bin_gtr, bin_geq, bin_eql, bin_neq, bin_add, bin_sub, bin_mul, ok_int, ok_bool, ok_slice, ok_str, ok_ptr, ok_map, ok_func, ok_iface, ok_nil, List.all_cons, List.all_nil, Bool.and_true, Bool.true_and, seg, setSeg, List.drop_succ_cons, List.drop_zero, List.take_succ_cons, List.take_zero, List.cons_append, List.nil_append, List.append_nil, List.length_cons, List.length_nil, List.drop_nil, List.size_toArray, Nat.reduceAdd, Nat.reduceLeDiff, Nat.reduceBEq, Nat.zero_add, Nat.le_refl, decide_true, mkV, List.headD_cons, cellsV, w_fldV, w_ext, w_fldP, List.getElem?_toArray, List.getElem?_cons_zero, List.getElem?_cons_succ, beq_self_eq_true, selV]
  have no : ∀ H', G H H' → may c d = false → Q (.int .i64 8) H' := fun H' g h => by have := hQ H' g; rw [h] at this; exact this
  refine join_of (fun s H' => H' = H3 ∧ s = [[.bool (decide (c.err ≠ 0 ∨ c.levels.length ≠ d.length))]]) (fun K hK => ?_) ?_
  · refine ifD_of (fun h1 => hK _ _ ⟨rfl, jb_t (.inl h1)⟩) (fun h1 => ?_)
    refine hv.len ((ha.g g).len ?_)
    try simp only [sv_cons, sv_cons1, sc_cons, sc_cons1, asB_bool, ifB_true, ifB_false, un_not, bin_lss, bin_leq, bin_gtr, bin_geq, bin_eql, bin_neq, bin_add, bin_sub, bin_mul, ok_int, ok_bool, ok_slice, ok_str, ok_ptr, ok_map, ok_func, ok_iface, ok_nil, List.all_cons, List.all_nil, Bool.and_true, Bool.true_and, seg, setSeg, List.drop_succ_cons, List.drop_zero, List.take_succ_cons, List.take_zero, List.cons_append, List.nil_append, List.append_nil, List.length_cons, List.length_nil, List.drop_nil, List.size_toArray, Nat.reduceAdd, Nat.reduceLeDiff, Nat.reduceBEq, Nat.zero_add, Nat.le_refl, decide_true, mkV, List.headD_cons, cellsV, w_fldV, w_ext, w_fldP, List.getElem?_toArray, List.getElem?_cons_zero, List.getElem?_cons_succ, beq_self_eq_true, selV]
    exact hK _ _ ⟨rfl, jb_d (by omega)⟩
  rintro s H' ⟨rfl, rfl⟩
  try simp only [sv_cons, sv_cons1, sc_cons, sc_cons1, asB_bool, ifB_true, ifB_false, un_not, bin_lss, bin_leq, bin_gtr, bin_geq, bin_eql, bin_neq, bin_add, bin_sub, bin_mul, ok_int, ok_bool, ok_slice, ok_str, ok_ptr, ok_map, ok_func, ok_iface, ok_nil, List.all_cons, List.all_nil, Bool.and_true, Bool.true_and, seg, setSeg, List.drop_succ_cons, List.drop_zero, List.take_succ_cons, List.take_zero, List.cons_append, List.nil_append, List.append_nil, List.length_cons, List.length_nil, List.drop_nil, List.size_toArray, Nat.reduceAdd, Nat.reduceLeDiff, Nat.reduceBEq, Nat.zero_add, Nat.le_refl, decide_true, mkV, List.headD_cons, cellsV, w_fldV, w_ext, w_fldP, List.getElem?_toArray, List.getElem?_cons_zero, List.getElem?_cons_succ, beq_self_eq_true, selV]
  refine ifD_of (fun h1 => no _ g ?_) (fun h1 => ?_)
  · by_cases hc : c.may
    · unfold may
      cases hm : mayF c.all d with
      | false => simp
      | true =>
        have := mayF_len hm
        rw [Cfg.err, if_pos hc, Cfg.levels, if_pos hc] at h1
        omega
    · unfold may; rw [decide_eq_false hc]; rfl
  have hc : c.may := Classical.byContradiction fun hc => h1 (.inl (by rw [Cfg.err, if_neg hc]; omega))
  have hlv : c.levels = c.all := by rw [Cfg.levels, if_pos hc]
  rw [hlv] at hv h1
  have hd1 := hd.1
  refine hv.len ?_
  refine loop_up c.all.length (fun i s H'' => G H' H'' ∧ s = [[.int .i64 (i : Int)]] ∧ ∀ j l x, j < i → c.all[j]? = some l → d[j]? = some x → levelOk l x = true) ⟨G.fr (Fr.refl _ _), rfl, fun j l x h => by omega⟩ ?_
  rintro i s H'' K hi ⟨g', rfl, hin⟩ hK
  have gg := g.trans g'
  try simp only [sv_cons, sv_cons1, sc_cons, sc_cons1, asB_bool, ifB_true, ifB_false, un_not, bin_lss, bin_leq, bin_gtr, bin_geq, bin_eql, bin_neq, bin_add, bin_sub, bin_mul, ok_int, ok_bool, ok_slice, ok_str, ok_ptr, ok_map, ok_func, ok_iface, ok_nil, List.all_cons, List.all_nil, Bool.and_true, Bool.true_and, seg, setSeg, List.drop_succ_cons, List.drop_zero, List.take_succ_cons, List.take_zero, List.cons_append, List.nil_append, List.append_nil, List.length_cons, List.length_nil, List.drop_nil, List.size_toArray, Nat.reduceAdd, Nat.reduceLeDiff, Nat.reduceBEq, Nat.zero_add, Nat.le_refl, decide_true, mkV, List.headD_cons, cellsV, w_fldV, w_ext, w_fldP, List.getElem?_toArray, List.getElem?_cons_zero, List.getElem?_cons_succ, beq_self_eq_true, selV]
  refine ifD_of (fun h2 => ?_) (fun h2 => ?_)
  · have hlt : i < d.length := by omega
    have hx : d[i]? = some d[i] := List.getElem?_eq_getElem hlt
    have hll : c.all[i]? = some (c.all[i]'(by omega)) := List.getElem?_eq_getElem _
    have hxd := hd.2 _ (List.getElem_mem hlt)
    have hok := Cfg.all_ok hc.1 _ (List.getElem_mem (l := c.all) (n := i) (by omega))
    generalize d[i] = x at hx hxd
    generalize c.all[i]'(by omega) = l at hll hok
    have bad : levelOk l x = false → may c d = false := fun h => by
      cases hm : may c d with
      | false => rfl
      | true =>
        unfold may at hm
        simp only [Bool.and_eq_true] at hm
        have := (mayF_iff.1 hm.2).2 i l x hll hx
        rw [h] at this; cases this
    refine (hv.g g').get rfl hll fun cs hr => ?_
    obtain ⟨rfl, _⟩ := hr
    refine newC_bx fun H4 hb4 g4 s4 => hb4.storeA rfl rfl rfl fun H5 hb5 f5 s5 => ?_
    have g5 : G H'' H5 := g4.then f5 fun y hy => by omega
    have gA := gg.trans g5
    try simp only [sv_cons, sv_cons1, sc_cons, sc_cons1, asB_bool, ifB_true, ifB_false, un_not, bin_lss, bin_leq, bin_gtr, bin_geq, bin_eql, bin_neq, bin_add, bin_sub, bin_mul, ok_int, ok_bool, ok_slice, ok_str, ok_ptr, ok_map, ok_func, ok_iface, ok_nil, List.all_cons, List.all_nil, Bool.and_true, Bool.true_and, seg, setSeg, List.drop_succ_cons, List.drop_zero, List.take_succ_cons, List.take_zero, List.cons_append, List.nil_append, List.append_nil, List.length_cons, List.length_nil, List.drop_nil, List.size_toArray, Nat.reduceAdd, Nat.reduceLeDiff, Nat.reduceBEq, Nat.zero_add, Nat.le_refl, decide_true, mkV, List.headD_cons, cellsV, w_fldV, w_ext, w_fldP, List.getElem?_toArray, List.getElem?_cons_zero, List.getElem?_cons_succ, beq_self_eq_true, selV]
    refine hb5.loadF (by simp) ?_
    try simp only [sv_cons, sv_cons1, sc_cons, sc_cons1, asB_bool, ifB_true, ifB_false, un_not, bin_lss, bin_leq, bin_gtr, bin_geq, bin_eql, bin_neq, bin_add, bin_sub, bin_mul, ok_int, ok_bool, ok_slice, ok_str, ok_ptr, ok_map, ok_func, ok_iface, ok_nil, List.all_cons, List.all_nil, Bool.and_true, Bool.true_and, seg, setSeg, List.drop_succ_cons, List.drop_zero, List.take_succ_cons, List.take_zero, List.cons_append, List.nil_append, List.append_nil, List.length_cons, List.length_nil, List.drop_nil, List.size_toArray, Nat.reduceAdd, Nat.reduceLeDiff, Nat.reduceBEq, Nat.zero_add, Nat.le_refl, decide_true, mkV, List.headD_cons, cellsV, w_fldV, w_ext, w_fldP, List.getElem?_toArray, List.getElem?_cons_zero, List.getElem?_cons_succ, beq_self_eq_true, selV]
    refine c_geo_Buckets ?_
    have hok' := hok
    obtain ⟨_, _, _, _, o1, o2, o3, o4⟩ := hok'
    have hm := many_bound o1 o2
    unfold bucketsV
    rw [if_pos (highE_ok.2 ⟨o1, o2⟩)]
    try simp only [sv_cons, sv_cons1, sc_cons, sc_cons1, asB_bool, ifB_true, ifB_false, un_not, bin_lss, bin_leq, bin_gtr, bin_geq, bin_eql, bin_neq, bin_add, bin_sub, bin_mul, ok_int, ok_bool, ok_slice, ok_str, ok_ptr, ok_map, ok_func, ok_iface, ok_nil, List.all_cons, List.all_nil, Bool.and_true, Bool.true_and, seg, setSeg, List.drop_succ_cons, List.drop_zero, List.take_succ_cons, List.take_zero, List.cons_append, List.nil_append, List.append_nil, List.length_cons, List.length_nil, List.drop_nil, List.size_toArray, Nat.reduceAdd, Nat.reduceLeDiff, Nat.reduceBEq, Nat.zero_add, Nat.le_refl, decide_true, mkV, List.headD_cons, cellsV, w_fldV, w_ext, w_fldP, List.getElem?_toArray, List.getElem?_cons_zero, List.getElem?_cons_succ, beq_self_eq_true, selV]
    refine join_of (fun s H6 => H6 = H5 ∧ s = [[.bool (!levelOk l x)]]) (fun K' hK' => ?_) ?_
    · refine (ha.g gA).getS hx fun u hu => hu.len ?_
      try simp only [sv_cons, sv_cons1, sc_cons, sc_cons1, asB_bool, ifB_true, ifB_false, un_not, bin_lss, bin_leq, bin_gtr, bin_geq, bin_eql, bin_neq, bin_add, bin_sub, bin_mul, ok_int, ok_bool, ok_slice, ok_str, ok_ptr, ok_map, ok_func, ok_iface, ok_nil, List.all_cons, List.all_nil, Bool.and_true, Bool.true_and, seg, setSeg, List.drop_succ_cons, List.drop_zero, List.take_succ_cons, List.take_zero, List.cons_append, List.nil_append, List.append_nil, List.length_cons, List.length_nil, List.drop_nil, List.size_toArray, Nat.reduceAdd, Nat.reduceLeDiff, Nat.reduceBEq, Nat.zero_add, Nat.le_refl, decide_true, mkV, List.headD_cons, cellsV, w_fldV, w_ext, w_fldP, List.getElem?_toArray, List.getElem?_cons_zero, List.getElem?_cons_succ, beq_self_eq_true, selV]
      refine ifD_of (fun h3 => hK' _ _ ⟨rfl, ?_⟩) (fun h3 => ?_)
      · unfold levelOk
        rw [show ((x.length : Int) == 2 * many l.high - 1) = false from by simpa using h3]; rfl
      · refine (ha.g gA).getS hx fun u hu => c_Contains_by (p := fun b => (b.length : Int) != 8 + l.width) hu (by omega) (fun w y K hw hK => c_dev_Check_1 hw hb5 hok hK) ?_
        refine hK' _ _ ⟨rfl, ?_⟩
        unfold levelOk
        rw [show ((x.length : Int) == 2 * many l.high - 1) = true from by simp; omega, Bool.true_and]
        rw [List.not_all_eq_any_not]
        rfl
    rintro s H6 ⟨rfl, rfl⟩
    try simp only [sv_cons, sv_cons1, sc_cons, sc_cons1, asB_bool, ifB_true, ifB_false, un_not, bin_lss, bin_leq, bin_gtr, bin_geq, bin_eql, bin_neq, bin_add, bin_sub, bin_mul, ok_int, ok_bool, ok_slice, ok_str, ok_ptr, ok_map, ok_func, ok_iface, ok_nil, List.all_cons, List.all_nil, Bool.and_true, Bool.true_and, seg, setSeg, List.drop_succ_cons, List.drop_zero, List.take_succ_cons, List.take_zero, List.cons_append, List.nil_append, List.append_nil, List.length_cons, List.length_nil, List.drop_nil, List.size_toArray, Nat.reduceAdd, Nat.reduceLeDiff, Nat.reduceBEq, Nat.zero_add, Nat.le_refl, decide_true, mkV, List.headD_cons, cellsV, w_fldV, w_ext, w_fldP, List.getElem?_toArray, List.getElem?_cons_zero, List.getElem?_cons_succ, beq_self_eq_true, selV]
    cases hlo : levelOk l x with
    | false => exact no _ gA (bad hlo)
    | true =>
      try simp only [sv_cons, sv_cons1, sc_cons, sc_cons1, asB_bool, ifB_true, ifB_false, un_not, bin_lss, bin_leq, bin_gtr, bin_geq, bin_eql, bin_neq, bin_add, bin_sub, bin_mul, ok_int, ok_bool, ok_slice, ok_str, ok_ptr, ok_map, ok_func, ok_iface, ok_nil, List.all_cons, List.all_nil, Bool.and_true, Bool.true_and, seg, setSeg, List.drop_succ_cons, List.drop_zero, List.take_succ_cons, List.take_zero, List.cons_append, List.nil_append, List.append_nil, List.length_cons, List.length_nil, List.drop_nil, List.size_toArray, Nat.reduceAdd, Nat.reduceLeDiff, Nat.reduceBEq, Nat.zero_add, Nat.le_refl, decide_true, mkV, List.headD_cons, cellsV, w_fldV, w_ext, w_fldP, List.getElem?_toArray, List.getElem?_cons_zero, List.getElem?_cons_succ, beq_self_eq_true, selV]
      rw [wrap_i64 (by unfold i64; omega)]
      refine hK _ _ (by omega) ⟨g'.trans g5, by simp, fun j l' x' hj hl' hx' => ?_⟩
      rcases Nat.lt_or_ge j i with h | h
      · exact hin j l' x' h hl' hx'
      · have : j = i := by omega
        subst this
        rw [hll] at hl'; cases hl'
        rw [hx] at hx'; cases hx'
        exact hlo
  · have : may c d = true := by
      unfold may
      rw [decide_eq_true hc, Bool.true_and]
      exact mayF_iff.2 ⟨by omega, fun j l x hl hx => hin j l x (by have := (List.getElem?_eq_some_iff.1 hl).1; omega) hl hx⟩
    have hq := hQ _ gg
    rw [this] at hq; exact hq

/-! ### Buckets that are asked -/

theorem c_dev_asked {c : Cfg} {a l : Value} {d : Dv} {level : Int} {bs : List Int} (ha : Sl rBys H A a d) (hb : Sl (rI .i64) H B l bs) (hd : Mid d) (hl : bs.length ≤ 1000000) (hQ : ∀ H', G H H' → Q (.int .i64 (askE c d level bs)) H') :
    callV Try.prog (fnV fn_dev_asked) [.agg (cCfg c).toArray, .agg #[a], .int .i64 level, l] H Q := by
  apply S_dev_asked_of
  unfold S_dev_asked
  refine newT_of fun H1 g1 _ => newC_bx fun H2 b2 g2 s2 => ?_
  try simp only [sv_cons, sv_cons1, sc_cons, sc_cons1, asB_bool, ifB_true, ifB_false, un_not, bin_lss, bin_leq, bin_gtr, bin_geq, bin_eql, bin_neq, bin_add, bin_sub, bin_mul, ok_int, ok_bool, ok_slice, ok_str, ok_ptr, ok_map, ok_func, ok_iface, ok_nil, List.all_cons, List.all_nil, Bool.and_true, Bool.true_and, seg, setSeg, List.drop_succ_cons, List.drop_zero, List.take_succ_cons, List.take_zero, List.cons_append, List.nil_append, List.append_nil, List.length_cons, List.length_nil, List.drop_nil, List.size_toArray, Nat.reduceAdd, Nat.reduceLeDiff, Nat.reduceBEq, Nat.zero_add, Nat.le_refl, decide_true, mkV, List.headD_cons, cellsV, w_fldV, w_ext, w_fldP, List.getElem?_toArray, List.getElem?_cons_zero, List.getElem?_cons_succ, beq_self_eq_true, selV]
  refine newC_bx fun H3 b3 g3 s3 => ?_
  have b2 := b2.g g3
  have g := (g1.trans g2).trans g3
  refine b2.load rfl ?_
  try simp only [sv_cons, sv_cons1, sc_cons, sc_cons1, asB_bool, ifB_true, ifB_false, un_not, bin_lss, bin_leq, bin_gtr, bin_geq, bin_eql, bin_neq, bin_add, bin_sub, bin_mul, ok_int, ok_bool, ok_slice, ok_str, ok_ptr, ok_map, ok_func, ok_iface, ok_nil, List.all_cons, List.all_nil, Bool.and_true, Bool.true_and, seg, setSeg, List.drop_succ_cons, List.drop_zero, List.take_succ_cons, List.take_zero, List.cons_append, List.nil_append, List.append_nil, List.length_cons, List.length_nil, List.drop_nil, List.size_toArray, Nat.reduceAdd, Nat.reduceLeDiff, Nat.reduceBEq, Nat.zero_add, Nat.le_refl, decide_true, mkV, List.headD_cons, cellsV, w_fldV, w_ext, w_fldP, List.getElem?_toArray, List.getElem?_cons_zero, List.getElem?_cons_succ, beq_self_eq_true, selV]
  refine c_dev_Check (ha.g g) hd fun H4 g4 => ?_
  have b2 := b2.g g4
  have b3 := b3.g g4
  have g := g.trans g4
  try simp only [sv_cons, sv_cons1, sc_cons, sc_cons1, asB_bool, ifB_true, ifB_false, un_not, bin_lss, bin_leq, bin_gtr, bin_geq, bin_eql, bin_neq, bin_add, bin_sub, bin_mul, ok_int, ok_bool, ok_slice, ok_str, ok_ptr, ok_map, ok_func, ok_iface, ok_nil, List.all_cons, List.all_nil, Bool.and_true, Bool.true_and, seg, setSeg, List.drop_succ_cons, List.drop_zero, List.take_succ_cons, List.take_zero, List.cons_append, List.nil_append, List.append_nil, List.length_cons, List.length_nil, List.drop_nil, List.size_toArray, Nat.reduceAdd, Nat.reduceLeDiff, Nat.reduceBEq, Nat.zero_add, Nat.le_refl, decide_true, mkV, List.headD_cons, cellsV, w_fldV, w_ext, w_fldP, List.getElem?_toArray, List.getElem?_cons_zero, List.getElem?_cons_succ, beq_self_eq_true, selV]
  have hQ := hQ H4 g
  unfold askE at hQ
  cases hm : may c d with
  | false => rw [hm] at hQ; exact hQ
  | true =>
    rw [hm] at hQ
    try simp only [if_true, ne_eq, not_true_eq_false, decide_false, ifB_false]
    have hQ : Q (.int .i64 (levE d level bs)) H4 := hQ
    have hd1 := hd.1
    refine join_of (fun s H' => H' = H4 ∧ s = [[.bool (decide (level < 0 ∨ level ≥ d.length))]]) (fun K hK => ?_) ?_
    · refine b3.load rfl ?_
      try simp only [sv_cons, sv_cons1, sc_cons, sc_cons1, asB_bool, ifB_true, ifB_false, un_not, bin_lss, bin_leq, bin_gtr, bin_geq, bin_eql, bin_neq, bin_add, bin_sub, bin_mul, ok_int, ok_bool, ok_slice, ok_str, ok_ptr, ok_map, ok_func, ok_iface, ok_nil, List.all_cons, List.all_nil, Bool.and_true, Bool.true_and, seg, setSeg, List.drop_succ_cons, List.drop_zero, List.take_succ_cons, List.take_zero, List.cons_append, List.nil_append, List.append_nil, List.length_cons, List.length_nil, List.drop_nil, List.size_toArray, Nat.reduceAdd, Nat.reduceLeDiff, Nat.reduceBEq, Nat.zero_add, Nat.le_refl, decide_true, mkV, List.headD_cons, cellsV, w_fldV, w_ext, w_fldP, List.getElem?_toArray, List.getElem?_cons_zero, List.getElem?_cons_succ, beq_self_eq_true, selV]
      refine ifD_of (fun h1 => hK _ _ ⟨rfl, jb_t (.inl h1)⟩) (fun h1 => ?_)
      refine b3.load rfl ?_
      refine b2.loadF (by simp) ?_
      try simp only [sv_cons, sv_cons1, sc_cons, sc_cons1, asB_bool, ifB_true, ifB_false, un_not, bin_lss, bin_leq, bin_gtr, bin_geq, bin_eql, bin_neq, bin_add, bin_sub, bin_mul, ok_int, ok_bool, ok_slice, ok_str, ok_ptr, ok_map, ok_func, ok_iface, ok_nil, List.all_cons, List.all_nil, Bool.and_true, Bool.true_and, seg, setSeg, List.drop_succ_cons, List.drop_zero, List.take_succ_cons, List.take_zero, List.cons_append, List.nil_append, List.append_nil, List.length_cons, List.length_nil, List.drop_nil, List.size_toArray, Nat.reduceAdd, Nat.reduceLeDiff, Nat.reduceBEq, Nat.zero_add, Nat.le_refl, decide_true, mkV, List.headD_cons, cellsV, w_fldV, w_ext, w_fldP, List.getElem?_toArray, List.getElem?_cons_zero, List.getElem?_cons_succ, beq_self_eq_true, selV]
      refine (ha.g g).len ?_
      try simp only [sv_cons, sv_cons1, sc_cons, sc_cons1, asB_bool, ifB_true, ifB_false, un_not, bin_lss, bin_leq, bin_gtr, bin_geq, bin_eql, bin_neq, bin_add, bin_sub, bin_mul, ok_int, ok_bool, ok_slice, ok_str, ok_ptr, ok_map, ok_func, ok_iface, ok_nil, List.all_cons, List.all_nil, Bool.and_true, Bool.true_and, seg, setSeg, List.drop_succ_cons, List.drop_zero, List.take_succ_cons, List.take_zero, List.cons_append, List.nil_append, List.append_nil, List.length_cons, List.length_nil, List.drop_nil, List.size_toArray, Nat.reduceAdd, Nat.reduceLeDiff, Nat.reduceBEq, Nat.zero_add, Nat.le_refl, decide_true, mkV, List.headD_cons, cellsV, w_fldV, w_ext, w_fldP, List.getElem?_toArray, List.getElem?_cons_zero, List.getElem?_cons_succ, beq_self_eq_true, selV]
      exact hK _ _ ⟨rfl, jb_d (by omega)⟩
    rintro s H' ⟨rfl, rfl⟩
    try simp only [sv_cons, sv_cons1, sc_cons, sc_cons1, asB_bool, ifB_true, ifB_false, un_not, bin_lss, bin_leq, bin_gtr, bin_geq, bin_eql, bin_neq, bin_add, bin_sub, bin_mul, ok_int, ok_bool, ok_slice, ok_str, ok_ptr, ok_map, ok_func, ok_iface, ok_nil, List.all_cons, List.all_nil, Bool.and_true, Bool.true_and, seg, setSeg, List.drop_succ_cons, List.drop_zero, List.take_succ_cons, List.take_zero, List.cons_append, List.nil_append, List.append_nil, List.length_cons, List.length_nil, List.drop_nil, List.size_toArray, Nat.reduceAdd, Nat.reduceLeDiff, Nat.reduceBEq, Nat.zero_add, Nat.le_refl, decide_true, mkV, List.headD_cons, cellsV, w_fldV, w_ext, w_fldP, List.getElem?_toArray, List.getElem?_cons_zero, List.getElem?_cons_succ, beq_self_eq_true, selV]
    refine ifD_of (fun h1 => ?_) (fun h1 => ?_)
    · unfold levE at hQ
      rw [if_pos h1] at hQ; exact hQ
    · have hlev := lvl_get (d := d) (level := level) (by omega)
      refine c_Contains_int (p := badAt d level) (hb.g g) hl (fun x K hK => ?_) ?_
      · apply C_dev_asked_1_of
        unfold S_dev_asked_1
        refine join_of (fun s H'' => H'' = H' ∧ s = [[.bool (badAt d level x)]]) (fun K' hK' => ?_) ?_
        · try simp only [sv_cons, sv_cons1, sc_cons, sc_cons1, asB_bool, ifB_true, ifB_false, un_not, bin_lss, bin_leq, bin_gtr, bin_geq, bin_eql, bin_neq, bin_add, bin_sub, bin_mul, ok_int, ok_bool, ok_slice, ok_str, ok_ptr, ok_map, ok_func, ok_iface, ok_nil, List.all_cons, List.all_nil, Bool.and_true, Bool.true_and, seg, setSeg, List.drop_succ_cons, List.drop_zero, List.take_succ_cons, List.take_zero, List.cons_append, List.nil_append, List.append_nil, List.length_cons, List.length_nil, List.drop_nil, List.size_toArray, Nat.reduceAdd, Nat.reduceLeDiff, Nat.reduceBEq, Nat.zero_add, Nat.le_refl, decide_true, mkV, List.headD_cons, cellsV, w_fldV, w_ext, w_fldP, List.getElem?_toArray, List.getElem?_cons_zero, List.getElem?_cons_succ, beq_self_eq_true, selV]
          refine ifD_of (fun h2 => hK' _ _ ⟨rfl, by unfold badAt; simp [h2]⟩) (fun h2 => ?_)
          refine b2.loadF (by simp) (b3.load rfl ?_)
          try simp only [sv_cons, sv_cons1, sc_cons, sc_cons1, asB_bool, ifB_true, ifB_false, un_not, bin_lss, bin_leq, bin_gtr, bin_geq, bin_eql, bin_neq, bin_add, bin_sub, bin_mul, ok_int, ok_bool, ok_slice, ok_str, ok_ptr, ok_map, ok_func, ok_iface, ok_nil, List.all_cons, List.all_nil, Bool.and_true, Bool.true_and, seg, setSeg, List.drop_succ_cons, List.drop_zero, List.take_succ_cons, List.take_zero, List.cons_append, List.nil_append, List.append_nil, List.length_cons, List.length_nil, List.drop_nil, List.size_toArray, Nat.reduceAdd, Nat.reduceLeDiff, Nat.reduceBEq, Nat.zero_add, Nat.le_refl, decide_true, mkV, List.headD_cons, cellsV, w_fldV, w_ext, w_fldP, List.getElem?_toArray, List.getElem?_cons_zero, List.getElem?_cons_succ, beq_self_eq_true, selV]
          refine (ha.g g).getSZ (by omega) hlev fun u hu => hu.len ?_
          try simp only [sv_cons, sv_cons1, sc_cons, sc_cons1, asB_bool, ifB_true, ifB_false, un_not, bin_lss, bin_leq, bin_gtr, bin_geq, bin_eql, bin_neq, bin_add, bin_sub, bin_mul, ok_int, ok_bool, ok_slice, ok_str, ok_ptr, ok_map, ok_func, ok_iface, ok_nil, List.all_cons, List.all_nil, Bool.and_true, Bool.true_and, seg, setSeg, List.drop_succ_cons, List.drop_zero, List.take_succ_cons, List.take_zero, List.cons_append, List.nil_append, List.append_nil, List.length_cons, List.length_nil, List.drop_nil, List.size_toArray, Nat.reduceAdd, Nat.reduceLeDiff, Nat.reduceBEq, Nat.zero_add, Nat.le_refl, decide_true, mkV, List.headD_cons, cellsV, w_fldV, w_ext, w_fldP, List.getElem?_toArray, List.getElem?_cons_zero, List.getElem?_cons_succ, beq_self_eq_true, selV]
          exact hK' _ _ ⟨rfl, by unfold badAt; simp [h2]⟩
        · rintro s H'' ⟨rfl, rfl⟩
          exact hK
      · try simp only [sv_cons, sv_cons1, sc_cons, sc_cons1, asB_bool, ifB_true, ifB_false, un_not, bin_lss, bin_leq, bin_gtr, bin_geq, bin_eql, bin_neq, bin_add, bin_sub, bin_mul, ok_int, ok_bool, ok_slice, ok_str, ok_ptr, ok_map, ok_func, ok_iface, ok_nil, List.all_cons, List.all_nil, Bool.and_true, Bool.true_and, seg, setSeg, List.drop_succ_cons, List.drop_zero, List.take_succ_cons, List.take_zero, List.cons_append, List.nil_append, List.append_nil, List.length_cons, List.length_nil, List.drop_nil, List.size_toArray, Nat.reduceAdd, Nat.reduceLeDiff, Nat.reduceBEq, Nat.zero_add, Nat.le_refl, decide_true, mkV, List.headD_cons, cellsV, w_fldV, w_ext, w_fldP, List.getElem?_toArray, List.getElem?_cons_zero, List.getElem?_cons_succ, beq_self_eq_true, selV]
        unfold levE at hQ
        rw [if_neg h1] at hQ
        cases hany : bs.any (badAt d level) with
        | true => rw [hany] at hQ; exact hQ
        | false => rw [hany] at hQ; exact hQ

/-! ### Devices of noughts -/

theorem Cl.of {H' H1 : Heap} {v : Value} {b : Nat} {vs : List Value} {F : Nat → Prop} {xs : List By} (h : Cl H1 H' v b vs F xs) (g : G H H1) : Cl H H' v b vs F xs := by
  have := g.size
  exact ⟨h.own, h.leaves, by have := h.fresh; omega, fun y hy => by have := h.freshF y hy; omega, g.trans h.g⟩

theorem c_each_int {a : Value} {xs : List Int} {b w : Nat} {l : Lvl} (ha : Sl (rI .i64) H A a xs) (hl : xs.length ≤ 10000) (hb : Bx H b (cLvl l)) (ho : l.ok) (hw : 8 + l.width = (w : Int))
    (hQ : ∀ v b vs F H', Cl H H' v b vs F (List.replicate xs.length (List.replicate w 0)) → Q v H') : callV Try.prog (fnV fn_dev_each_int_byte) [a, .func (.func fn_dev_New_1_1) #[] #[.pointer (some ⟨b, 0, none⟩)]] H Q := by
  apply S_dev_each_int_byte_of
  unfold S_dev_each_int_byte
  obtain ⟨_, _, _, _, _, _, o3, o4⟩ := ho
  refine ha.len ?_
  refine loop_up xs.length (fun i s H' => ∃ v b vs F, Cl H H' v b vs F (List.replicate i (List.replicate w 0)) ∧ s = [[v], [.int .i64 (i : Int)]]) ⟨_, _, _, _, by simpa using Cl.nil (G.fr (Fr.refl _ H)), rfl⟩ ?_
  rintro i s H' K hi ⟨v, b, vs, F, hc, rfl⟩ hK
  try simp only [sv_cons, sv_cons1, sc_cons, sc_cons1, asB_bool, ifB_true, ifB_false, un_not, bin_lss, bin_leq, bin_gtr, bin_geq, bin_eql, bin_neq, bin_add, bin_sub, bin_mul, ok_int, ok_bool, ok_slice, ok_str, ok_ptr, ok_map, ok_func, ok_iface, ok_nil, List.all_cons, List.all_nil, Bool.and_true, Bool.true_and, seg, setSeg, List.drop_succ_cons, List.drop_zero, List.take_succ_cons, List.take_zero, List.cons_append, List.nil_append, List.append_nil, List.length_cons, List.length_nil, List.drop_nil, List.size_toArray, Nat.reduceAdd, Nat.reduceLeDiff, Nat.reduceBEq, Nat.zero_add, Nat.le_refl, decide_true, mkV, List.headD_cons, cellsV, w_fldV, w_ext, w_fldP, List.getElem?_toArray, List.getElem?_cons_zero, List.getElem?_cons_succ, beq_self_eq_true, selV]
  refine ifD_of (fun h1 => ?_) (fun h1 => ?_)
  · have hlt : i < xs.length := by omega
    refine (ha.g hc.g).getI (List.getElem?_eq_getElem hlt) fun _ => ?_
    apply C_dev_New_1_1_of
    unfold S_dev_New_1_1
    try simp only [sv_cons, sv_cons1, sc_cons, sc_cons1, asB_bool, ifB_true, ifB_false, un_not, bin_lss, bin_leq, bin_gtr, bin_geq, bin_eql, bin_neq, bin_add, bin_sub, bin_mul, ok_int, ok_bool, ok_slice, ok_str, ok_ptr, ok_map, ok_func, ok_iface, ok_nil, List.all_cons, List.all_nil, Bool.and_true, Bool.true_and, seg, setSeg, List.drop_succ_cons, List.drop_zero, List.take_succ_cons, List.take_zero, List.cons_append, List.nil_append, List.append_nil, List.length_cons, List.length_nil, List.drop_nil, List.size_toArray, Nat.reduceAdd, Nat.reduceLeDiff, Nat.reduceBEq, Nat.zero_add, Nat.le_refl, decide_true, mkV, List.headD_cons, cellsV, w_fldV, w_ext, w_fldP, List.getElem?_toArray, List.getElem?_cons_zero, List.getElem?_cons_succ, beq_self_eq_true, selV]
    refine (hb.g hc.g).loadF (by simp) ?_
    try simp only [sv_cons, sv_cons1, sc_cons, sc_cons1, asB_bool, ifB_true, ifB_false, un_not, bin_lss, bin_leq, bin_gtr, bin_geq, bin_eql, bin_neq, bin_add, bin_sub, bin_mul, ok_int, ok_bool, ok_slice, ok_str, ok_ptr, ok_map, ok_func, ok_iface, ok_nil, List.all_cons, List.all_nil, Bool.and_true, Bool.true_and, seg, setSeg, List.drop_succ_cons, List.drop_zero, List.take_succ_cons, List.take_zero, List.cons_append, List.nil_append, List.append_nil, List.length_cons, List.length_nil, List.drop_nil, List.size_toArray, Nat.reduceAdd, Nat.reduceLeDiff, Nat.reduceBEq, Nat.zero_add, Nat.le_refl, decide_true, mkV, List.headD_cons, cellsV, w_fldV, w_ext, w_fldP, List.getElem?_toArray, List.getElem?_cons_zero, List.getElem?_cons_succ, beq_self_eq_true, selV]
    rw [wrap_i64 (x := 8 + l.width) (by unfold i64; omega), hw]
    refine mk_zero (R := rU8) (x := 0) (A := fun _ => False) ⟨rfl, trivial⟩ rfl (by omega) (by omega) (by omega) fun t H2 ht g2 s2 => ?_
    have ht := ht.mono (A' := fun _ => False) fun y hy _ => by simp at hy
    refine hc.push g2 ht (.inr (by omega)) rfl rfl (by simp; omega) (by simp; omega) fun v' H3 b' hc' _ _ => ?_
    try simp only [sv_cons, sv_cons1, sc_cons, sc_cons1, asB_bool, ifB_true, ifB_false, un_not, bin_lss, bin_leq, bin_gtr, bin_geq, bin_eql, bin_neq, bin_add, bin_sub, bin_mul, ok_int, ok_bool, ok_slice, ok_str, ok_ptr, ok_map, ok_func, ok_iface, ok_nil, List.all_cons, List.all_nil, Bool.and_true, Bool.true_and, seg, setSeg, List.drop_succ_cons, List.drop_zero, List.take_succ_cons, List.take_zero, List.cons_append, List.nil_append, List.append_nil, List.length_cons, List.length_nil, List.drop_nil, List.size_toArray, Nat.reduceAdd, Nat.reduceLeDiff, Nat.reduceBEq, Nat.zero_add, Nat.le_refl, decide_true, mkV, List.headD_cons, cellsV, w_fldV, w_ext, w_fldP, List.getElem?_toArray, List.getElem?_cons_zero, List.getElem?_cons_succ, beq_self_eq_true, selV]
    rw [wrap_i64 (by unfold i64; omega)]
    rw [replicate_snoc] at hc'
    exact hK _ _ hlt ⟨v', b', _, _, hc', by simp⟩
  · have : i = xs.length := by omega
    subst this
    exact hQ v b vs F H' hc

theorem c_dev_New_1 {l : Lvl} (ho : l.ok) (hQ : ∀ v b vs F H', Cl H H' v b vs F (List.replicate (2 * many l.high - 1).toNat (List.replicate (8 + l.width).toNat 0)) → Q v H') : callV Try.prog (fnV fn_dev_New_1) [.agg (cLvl l).toArray] H Q := by
  apply S_dev_New_1_of
  unfold S_dev_New_1
  have ho' := ho
  obtain ⟨_, _, _, _, o1, o2, o3, o4⟩ := ho'
  have hm := many_bound o1 o2
  obtain ⟨n, hn⟩ : ∃ n : Nat, 2 * many l.high - 1 = (n : Int) := ⟨(2 * many l.high - 1).toNat, by omega⟩
  obtain ⟨w, hw⟩ : ∃ w : Nat, 8 + l.width = (w : Int) := ⟨(8 + l.width).toNat, by omega⟩
  rw [hn, hw, Int.toNat_natCast, Int.toNat_natCast] at hQ
  refine newC_bx fun H1 hb g1 s1 => ?_
  try simp only [sv_cons, sv_cons1, sc_cons, sc_cons1, asB_bool, ifB_true, ifB_false, un_not, bin_lss, bin_leq, bin_gtr, bin_geq, bin_eql, bin_neq, bin_add, bin_sub, bin_mul, ok_int, ok_bool, ok_slice, ok_str, ok_ptr, ok_map, ok_func, ok_iface, ok_nil, List.all_cons, List.all_nil, Bool.and_true, Bool.true_and, seg, setSeg, List.drop_succ_cons, List.drop_zero, List.take_succ_cons, List.take_zero, List.cons_append, List.nil_append, List.append_nil, List.length_cons, List.length_nil, List.drop_nil, List.size_toArray, Nat.reduceAdd, Nat.reduceLeDiff, Nat.reduceBEq, Nat.zero_add, Nat.le_refl, decide_true, mkV, List.headD_cons, cellsV, w_fldV, w_ext, w_fldP, List.getElem?_toArray, List.getElem?_cons_zero, List.getElem?_cons_succ, beq_self_eq_true, selV]
  refine hb.loadF (by simp) ?_
  try simp only [sv_cons, sv_cons1, sc_cons, sc_cons1, asB_bool, ifB_true, ifB_false, un_not, bin_lss, bin_leq, bin_gtr, bin_geq, bin_eql, bin_neq, bin_add, bin_sub, bin_mul, ok_int, ok_bool, ok_slice, ok_str, ok_ptr, ok_map, ok_func, ok_iface, ok_nil, List.all_cons, List.all_nil, Bool.and_true, Bool.true_and, seg, setSeg, List.drop_succ_cons, List.drop_zero, List.take_succ_cons, List.take_zero, List.cons_append, List.nil_append, List.append_nil, List.length_cons, List.length_nil, List.drop_nil, List.size_toArray, Nat.reduceAdd, Nat.reduceLeDiff, Nat.reduceBEq, Nat.zero_add, Nat.le_refl, decide_true, mkV, List.headD_cons, cellsV, w_fldV, w_ext, w_fldP, List.getElem?_toArray, List.getElem?_cons_zero, List.getElem?_cons_succ, beq_self_eq_true, selV]
  refine c_geo_Buckets ?_
  unfold bucketsV
  rw [if_pos (highE_ok.2 ⟨o1, o2⟩), hn]
  try simp only [sv_cons, sv_cons1, sc_cons, sc_cons1, asB_bool, ifB_true, ifB_false, un_not, bin_lss, bin_leq, bin_gtr, bin_geq, bin_eql, bin_neq, bin_add, bin_sub, bin_mul, ok_int, ok_bool, ok_slice, ok_str, ok_ptr, ok_map, ok_func, ok_iface, ok_nil, List.all_cons, List.all_nil, Bool.and_true, Bool.true_and, seg, setSeg, List.drop_succ_cons, List.drop_zero, List.take_succ_cons, List.take_zero, List.cons_append, List.nil_append, List.append_nil, List.length_cons, List.length_nil, List.drop_nil, List.size_toArray, Nat.reduceAdd, Nat.reduceLeDiff, Nat.reduceBEq, Nat.zero_add, Nat.le_refl, decide_true, mkV, List.headD_cons, cellsV, w_fldV, w_ext, w_fldP, List.getElem?_toArray, List.getElem?_cons_zero, List.getElem?_cons_succ, beq_self_eq_true, selV]
  refine mk_zero (R := rI .i64) (x := 0) (A := fun _ => False) ⟨rfl, rfl⟩ rfl (by omega) (by omega) (by omega) fun t H2 ht g2 s2 => ?_
  refine c_each_int (ht.sl (A' := fun _ => True) (fun _ _ _ => trivial) fun _ _ => trivial) (by simp; omega) (hb.g g2) ho hw fun v b vs F H3 hc => ?_
  rw [List.length_replicate] at hc
  exact hQ v b vs F H3 (hc.of (g1.trans g2))

theorem c_dev_New {c : Cfg} (hQ : ∀ v H', Sl rBys H' (fun y => H.size ≤ y) v (if c.may then blankD c else []) → G H H' → Q (tup2 (.agg #[v]) (.int .i64 c.err)) H') : callV Try.prog (fnV fn_dev_New) [.agg (cCfg c).toArray] H Q := by
  apply S_dev_New_of
  unfold S_dev_New
  refine newT_of fun H1 g1 _ => newT_of fun H2 g2 _ => c_conf_Levels fun l H3 hl g3 => ?_
  have g := (g1.trans g2).trans g3
  try simp only [sv_cons, sv_cons1, sc_cons, sc_cons1, asB_bool, ifB_true, ifB_false, un_not, bin_lss, bin_leq, bin_gtr, bin_geq, bin_eql, bin_neq, bin_add, bin_sub, bin_mul, ok_int, ok_bool, ok_slice, ok_str, ok_ptr, ok_map, ok_func, ok_iface, ok_nil, List.all_cons, List.all_nil, Bool.and_true, Bool.true_and, seg, setSeg, List.drop_succ_cons, List.drop_zero, List.take_succ_cons, List.take_zero, List.cons_append, List.nil_append, List.append_nil, List.length_cons, List.length_nil, List.drop_nil, List.size_toArray, Nat.reduceAdd, Nat.reduceLeDiff, Nat.reduceBEq, Nat.zero_add, Nat.le_refl, decide_true, mkV, List.headD_cons, cellsV, w_fldV, w_ext, w_fldP, List.getElem?_toArray, List.getElem?_cons_zero, List.getElem?_cons_succ, beq_self_eq_true, selV]
  apply S_dev_each_api_Level_byte_of
  unfold S_dev_each_api_Level_byte
  have hok : ∀ x ∈ c.levels, x.ok := by
    unfold Cfg.levels
    split
    · rename_i h; exact Cfg.all_ok h.1
    · simp
  have hlen : c.levels.length ≤ 64 := by
    unfold Cfg.levels; split
    · exact c.all_len
    · simp
  have hbl : (if c.may then blankD c else []) = c.levels.map fun l => List.replicate (2 * many l.high - 1).toNat (List.replicate (8 + l.width).toNat (0 : UInt8)) := by
    unfold Cfg.levels blankD; split <;> simp
  rw [hbl] at hQ
  clear hbl
  generalize c.levels = ls at *
  refine hl.len ?_
  refine loop_up ls.length (fun i s H' => ∃ v, Cd H3 H' v ((ls.map fun l => List.replicate (2 * many l.high - 1).toNat (List.replicate (8 + l.width).toNat (0 : UInt8))).take i) ∧ s = [[v], [.int .i64 (i : Int)]])
    ⟨_, by simpa using Cd.nil (G.fr (Fr.refl _ H3)), rfl⟩ ?_
  rintro i s H' K hi ⟨v, hcd, rfl⟩ hK
  try simp only [sv_cons, sv_cons1, sc_cons, sc_cons1, asB_bool, ifB_true, ifB_false, un_not, bin_lss, bin_leq, bin_gtr, bin_geq, bin_eql, bin_neq, bin_add, bin_sub, bin_mul, ok_int, ok_bool, ok_slice, ok_str, ok_ptr, ok_map, ok_func, ok_iface, ok_nil, List.all_cons, List.all_nil, Bool.and_true, Bool.true_and, seg, setSeg, List.drop_succ_cons, List.drop_zero, List.take_succ_cons, List.take_zero, List.cons_append, List.nil_append, List.append_nil, List.length_cons, List.length_nil, List.drop_nil, List.size_toArray, Nat.reduceAdd, Nat.reduceLeDiff, Nat.reduceBEq, Nat.zero_add, Nat.le_refl, decide_true, mkV, List.headD_cons, cellsV, w_fldV, w_ext, w_fldP, List.getElem?_toArray, List.getElem?_cons_zero, List.getElem?_cons_succ, beq_self_eq_true, selV]
  refine ifD_of (fun h1 => ?_) (fun h1 => ?_)
  · have hlt : i < ls.length := by omega
    have hx : ls[i]? = some ls[i] := List.getElem?_eq_getElem hlt
    have ho := hok _ (List.getElem_mem hlt)
    have tk : (ls.map fun l => List.replicate (2 * many l.high - 1).toNat (List.replicate (8 + l.width).toNat (0 : UInt8))).take (i + 1) =
        (ls.map fun l => List.replicate (2 * many l.high - 1).toNat (List.replicate (8 + l.width).toNat (0 : UInt8))).take i ++ [List.replicate (2 * many ls[i].high - 1).toNat (List.replicate (8 + ls[i].width).toNat (0 : UInt8))] := by
      rw [List.take_add_one]; simp [hx]
    have tl : ((ls.map fun l => List.replicate (2 * many l.high - 1).toNat (List.replicate (8 + l.width).toNat (0 : UInt8))).take i).length = i := by simp; omega
    generalize ls[i] = l at *
    refine (hl.g hcd.g).get rfl hx fun cs hr => ?_
    obtain ⟨rfl, _⟩ := hr
    refine newT_of fun H4 g4 _ => ?_
    try simp only [sv_cons, sv_cons1, sc_cons, sc_cons1, asB_bool, ifB_true, ifB_false, un_not, bin_lss, bin_leq, bin_gtr, bin_geq, bin_eql, bin_neq, bin_add, bin_sub, bin_mul, ok_int, ok_bool, ok_slice, ok_str, ok_ptr, ok_map, ok_func, ok_iface, ok_nil, List.all_cons, List.all_nil, Bool.and_true, Bool.true_and, seg, setSeg, List.drop_succ_cons, List.drop_zero, List.take_succ_cons, List.take_zero, List.cons_append, List.nil_append, List.append_nil, List.length_cons, List.length_nil, List.drop_nil, List.size_toArray, Nat.reduceAdd, Nat.reduceLeDiff, Nat.reduceBEq, Nat.zero_add, Nat.le_refl, decide_true, mkV, List.headD_cons, cellsV, w_fldV, w_ext, w_fldP, List.getElem?_toArray, List.getElem?_cons_zero, List.getElem?_cons_succ, beq_self_eq_true, selV]
    refine c_dev_New_1 ho fun u b vs F H5 hc => ?_
    refine hcd.push (hc.of g4) rfl rfl (by rw [tl]; omega) (by rw [tl]; omega) fun v' H6 hc' => ?_
    try simp only [sv_cons, sv_cons1, sc_cons, sc_cons1, asB_bool, ifB_true, ifB_false, un_not, bin_lss, bin_leq, bin_gtr, bin_geq, bin_eql, bin_neq, bin_add, bin_sub, bin_mul, ok_int, ok_bool, ok_slice, ok_str, ok_ptr, ok_map, ok_func, ok_iface, ok_nil, List.all_cons, List.all_nil, Bool.and_true, Bool.true_and, seg, setSeg, List.drop_succ_cons, List.drop_zero, List.take_succ_cons, List.take_zero, List.cons_append, List.nil_append, List.append_nil, List.length_cons, List.length_nil, List.drop_nil, List.size_toArray, Nat.reduceAdd, Nat.reduceLeDiff, Nat.reduceBEq, Nat.zero_add, Nat.le_refl, decide_true, mkV, List.headD_cons, cellsV, w_fldV, w_ext, w_fldP, List.getElem?_toArray, List.getElem?_cons_zero, List.getElem?_cons_succ, beq_self_eq_true, selV]
    rw [wrap_i64 (by unfold i64; omega)]
    exact hK _ _ hlt ⟨v', by rw [tk]; exact hc', by simp⟩
  · have : i = ls.length := by omega
    subst this
    rw [List.take_of_length_le (by simp)] at hcd
    obtain ⟨O, F, hdv, hOF⟩ := (hcd.of g).out
    try simp only [sv_cons, sv_cons1, sc_cons, sc_cons1, asB_bool, ifB_true, ifB_false, un_not, bin_lss, bin_leq, bin_gtr, bin_geq, bin_eql, bin_neq, bin_add, bin_sub, bin_mul, ok_int, ok_bool, ok_slice, ok_str, ok_ptr, ok_map, ok_func, ok_iface, ok_nil, List.all_cons, List.all_nil, Bool.and_true, Bool.true_and, seg, setSeg, List.drop_succ_cons, List.drop_zero, List.take_succ_cons, List.take_zero, List.cons_append, List.nil_append, List.append_nil, List.length_cons, List.length_nil, List.drop_nil, List.size_toArray, Nat.reduceAdd, Nat.reduceLeDiff, Nat.reduceBEq, Nat.zero_add, Nat.le_refl, decide_true, mkV, List.headD_cons, cellsV, w_fldV, w_ext, w_fldP, List.getElem?_toArray, List.getElem?_cons_zero, List.getElem?_cons_succ, beq_self_eq_true, selV, hcd.okcv]
    exact hQ v H' (hdv.sl fun y hy => (hOF y hy).1) (g.trans hcd.g)

/-! ### Reading -/

theorem c_dev_one {a : Value} {d : Dv} {level b : Int} (ha : Sl rBys H A a d) (hd : Mid d) (hlev : 0 ≤ level ∧ level < d.length) (hb : 1 ≤ b ∧ b ≤ (lvlOf d level).length)
    (hQ : ∀ u H', G H H' → (∀ (kd : IntKind) (H'' : Heap) (K : Value → Prop), (∀ p w, AtC H' A p [w] → Sl rU8 H' A w (bk d level b) → K p) → idxS 1 u (.int kd 0) K) → Q u H') :
    callV Try.prog (fnV fn_dev_one) [.agg #[a], .int .i64 level, .int .i64 b] H Q := by
  apply S_dev_one_of
  unfold S_dev_one
  have hm := mid_len hd (level := level)
  refine newT_of fun H1 g1 _ => (ha.g g1).getSZ hlev.1 (lvl_get hlev) fun w hw => ?_
  try simp only [sv_cons, sv_cons1, sc_cons, sc_cons1, asB_bool, ifB_true, ifB_false, un_not, bin_lss, bin_leq, bin_gtr, bin_geq, bin_eql, bin_neq, bin_add, bin_sub, bin_mul, ok_int, ok_bool, ok_slice, ok_str, ok_ptr, ok_map, ok_func, ok_iface, ok_nil, List.all_cons, List.all_nil, Bool.and_true, Bool.true_and, seg, setSeg, List.drop_succ_cons, List.drop_zero, List.take_succ_cons, List.take_zero, List.cons_append, List.nil_append, List.append_nil, List.length_cons, List.length_nil, List.drop_nil, List.size_toArray, Nat.reduceAdd, Nat.reduceLeDiff, Nat.reduceBEq, Nat.zero_add, Nat.le_refl, decide_true, mkV, List.headD_cons, cellsV, w_fldV, w_ext, w_fldP, List.getElem?_toArray, List.getElem?_cons_zero, List.getElem?_cons_succ, beq_self_eq_true, selV]
  rw [wrap_i64 (x := b - 1) (by unfold i64; omega)]
  have key : slS 1 w (some (.int .i64 (b - 1))) (some (.int .i64 (b - 1 + 1))) (some (.int .i64 (b - 1 + 1))) (fun u => Q u H1) := by
    refine hw.one (by omega) (by omega) fun u hu => hQ u H1 g1 fun kd H'' K hK => hu .i64 kd K ?_
    exact hw.atSZ (by omega) (bk_get hb) fun p x hp hx => hK p x hp hx
  rw [show b - 1 + 1 = b from by omega] at key
  exact key

theorem c_dev_Read_1 {m a6 a9 b1 b2 : Nat} {F : Nat → Prop} {v1 v2 x : Value} {ws : List Value} {xs : List By} {sl : List See} {level b : Int} {bs : By} (h : Rw m H b1 b2 F v1 ws xs v2 sl) (hm : m ≤ H.size) (h9 : Bx H a9 [v2]) (h6 : Bx H a6 [.int .i64 level])
    (ho : a9 < m) (ho6 : a6 < m) (hne : a6 ≠ a9) (hx : Sl rU8 H A x bs) (hl : bs.length ≤ 1000000) (hsl : sl.length ≤ 1000000)
    (hQ : ∀ v H' b2', Rw m H' b1 b2' F v1 ws xs v (sl ++ [⟨1, level, b, bs⟩]) → Bx H' a9 [v] → Bx H' a6 [.int .i64 level] → Fr (fun y => y < m ∧ y ≠ a9) H H' → Q (.tuple #[]) H') :
    callV Try.prog (.func (.func fn_dev_Read_1) #[] #[.pointer (some ⟨a9, 0, none⟩), .pointer (some ⟨a6, 0, none⟩)]) [.int .i64 b, x] H Q := by
  apply C_dev_Read_1_of
  unfold S_dev_Read_1
  refine h9.load rfl (h6.load rfl ?_)
  try simp only [sv_cons, sv_cons1, sc_cons, sc_cons1, asB_bool, ifB_true, ifB_false, un_not, bin_lss, bin_leq, bin_gtr, bin_geq, bin_eql, bin_neq, bin_add, bin_sub, bin_mul, ok_int, ok_bool, ok_slice, ok_str, ok_ptr, ok_map, ok_func, ok_iface, ok_nil, List.all_cons, List.all_nil, Bool.and_true, Bool.true_and, seg, setSeg, List.drop_succ_cons, List.drop_zero, List.take_succ_cons, List.take_zero, List.cons_append, List.nil_append, List.append_nil, List.length_cons, List.length_nil, List.drop_nil, List.size_toArray, Nat.reduceAdd, Nat.reduceLeDiff, Nat.reduceBEq, Nat.zero_add, Nat.le_refl, decide_true, mkV, List.headD_cons, cellsV, w_fldV, w_ext, w_fldP, List.getElem?_toArray, List.getElem?_cons_zero, List.getElem?_cons_succ, beq_self_eq_true, selV]
  refine c_Clone hx hl fun u H1 bu hu g1 hbu => ?_
  have h9a := h9.g g1
  have h6a := h6.g g1
  refine ⟨h6a.load rfl rfl, h9a.load rfl rfl, ?_⟩
  try simp only [sv_cons, sv_cons1, sc_cons, sc_cons1, asB_bool, ifB_true, ifB_false, un_not, bin_lss, bin_leq, bin_gtr, bin_geq, bin_eql, bin_neq, bin_add, bin_sub, bin_mul, ok_int, ok_bool, ok_slice, ok_str, ok_ptr, ok_map, ok_func, ok_iface, ok_nil, List.all_cons, List.all_nil, Bool.and_true, Bool.true_and, seg, setSeg, List.drop_succ_cons, List.drop_zero, List.take_succ_cons, List.take_zero, List.cons_append, List.nil_append, List.append_nil, List.length_cons, List.length_nil, List.drop_nil, List.size_toArray, Nat.reduceAdd, Nat.reduceLeDiff, Nat.reduceBEq, Nat.zero_add, Nat.le_refl, decide_true, mkV, List.headD_cons, cellsV, w_fldV, w_ext, w_fldP, List.getElem?_toArray, List.getElem?_cons_zero, List.getElem?_cons_succ, beq_self_eq_true, selV, hu.okcv]
  have hul := hu.lt
  refine bld_one (R := rSee) (vrep_see (H' := H1) (hu.slF (A' := fun y => y + 1 = bu) fun k hk => hk.symm)) rfl (fun h => by cases h) rfl fun t H2 ht g2 s2 => ?_
  have h9b := h9a.g g2
  have h6b := h6a.g g2
  refine ⟨h6b.load rfl rfl, h9b.load rfl rfl, ?_⟩
  have g := g1.trans g2
  have hs := g.size
  have l1 := h.o1.lt
  have l2 := h.o2.lt
  have f2 := h.f2
  refine (h.g g).app (by omega) ht.src rfl (fun y hy _ => ⟨by omega, fun hF => by have := (h.inF y hF).2.1; omega, by omega, by omega⟩) (by simp; omega) (by simp; omega) fun w H3 b2' h3 hf => ?_
  have h9c := h9b.up hf (show a9 + 1 ≠ b2 by omega)
  have h6c := h6b.up hf (show a6 + 1 ≠ b2 by omega)
  refine ⟨h6c.load rfl rfl, h9c.store h3.o2.okcv fun H4 h9d hf4 s4 => ?_⟩
  refine hQ w H4 b2' (h3.up hf4 fun y hy _ => show y ≠ a9 by omega) h9d (h6c.up hf4 hne) ?_
  exact Fr.trans (Fr.trans (A := fun _ => True) (C := fun y => y < m) g hf fun y _ (hy : y < m) => ⟨trivial, show y + 1 ≠ b2 by omega⟩) hf4 fun y _ hy => ⟨hy.1, hy.2⟩

theorem c_dev_Read {c : Cfg} {a l : Value} {d : Dv} {level : Int} {bs : List Int} (ha : Sl rBys H A a d) (hb : Sl (rI .i64) H B l bs) (hd : Mid d) (hl : bs.length ≤ 1000000)
    (hQ : ∀ v1 v2 b1 b2 F ws H', Rw H.size H' b1 b2 F v1 ws (if askE c d level bs = 0 then bs.map (bk d level) else []) v2 (if askE c d level bs = 0 then seesR d level bs else []) → G H H' → Q (tup3 v1 v2 (.int .i64 (askE c d level bs))) H') :
    callV Try.prog (fnV fn_dev_Read) [.agg (cCfg c).toArray, .agg #[a], .int .i64 level, l] H Q := by
  apply S_dev_Read_of
  unfold S_dev_Read
  have ha := ha.old
  have hb := hb.old
  refine newT_of fun H1 g1 s1 => newT_of fun H2 g2 s2 => ?_
  try simp only [sv_cons, sv_cons1, sc_cons, sc_cons1, asB_bool, ifB_true, ifB_false, un_not, bin_lss, bin_leq, bin_gtr, bin_geq, bin_eql, bin_neq, bin_add, bin_sub, bin_mul, ok_int, ok_bool, ok_slice, ok_str, ok_ptr, ok_map, ok_func, ok_iface, ok_nil, List.all_cons, List.all_nil, Bool.and_true, Bool.true_and, seg, setSeg, List.drop_succ_cons, List.drop_zero, List.take_succ_cons, List.take_zero, List.cons_append, List.nil_append, List.append_nil, List.length_cons, List.length_nil, List.drop_nil, List.size_toArray, Nat.reduceAdd, Nat.reduceLeDiff, Nat.reduceBEq, Nat.zero_add, Nat.le_refl, decide_true, mkV, List.headD_cons, cellsV, w_fldV, w_ext, w_fldP, List.getElem?_toArray, List.getElem?_cons_zero, List.getElem?_cons_succ, beq_self_eq_true, selV]
  refine newC_bx fun H3 h6 g3 s3 => newC_bx fun H4 h9 g4 s4 => ?_
  have h6 := h6.g g4
  have g := ((g1.trans g2).trans g3).trans g4
  refine h6.load rfl ?_
  try simp only [sv_cons, sv_cons1, sc_cons, sc_cons1, asB_bool, ifB_true, ifB_false, un_not, bin_lss, bin_leq, bin_gtr, bin_geq, bin_eql, bin_neq, bin_add, bin_sub, bin_mul, ok_int, ok_bool, ok_slice, ok_str, ok_ptr, ok_map, ok_func, ok_iface, ok_nil, List.all_cons, List.all_nil, Bool.and_true, Bool.true_and, seg, setSeg, List.drop_succ_cons, List.drop_zero, List.take_succ_cons, List.take_zero, List.cons_append, List.nil_append, List.append_nil, List.length_cons, List.length_nil, List.drop_nil, List.size_toArray, Nat.reduceAdd, Nat.reduceLeDiff, Nat.reduceBEq, Nat.zero_add, Nat.le_refl, decide_true, mkV, List.headD_cons, cellsV, w_fldV, w_ext, w_fldP, List.getElem?_toArray, List.getElem?_cons_zero, List.getElem?_cons_succ, beq_self_eq_true, selV]
  refine c_dev_asked (ha.g g) (hb.g g) hd hl fun H5 g5 => ?_
  have h6 := h6.g g5
  have h9 := h9.g g5
  have g := g.trans g5
  have hs5 := g5.size
  try simp only [sv_cons, sv_cons1, sc_cons, sc_cons1, asB_bool, ifB_true, ifB_false, un_not, bin_lss, bin_leq, bin_gtr, bin_geq, bin_eql, bin_neq, bin_add, bin_sub, bin_mul, ok_int, ok_bool, ok_slice, ok_str, ok_ptr, ok_map, ok_func, ok_iface, ok_nil, List.all_cons, List.all_nil, Bool.and_true, Bool.true_and, seg, setSeg, List.drop_succ_cons, List.drop_zero, List.take_succ_cons, List.take_zero, List.cons_append, List.nil_append, List.append_nil, List.length_cons, List.length_nil, List.drop_nil, List.size_toArray, Nat.reduceAdd, Nat.reduceLeDiff, Nat.reduceBEq, Nat.zero_add, Nat.le_refl, decide_true, mkV, List.headD_cons, cellsV, w_fldV, w_ext, w_fldP, List.getElem?_toArray, List.getElem?_cons_zero, List.getElem?_cons_succ, beq_self_eq_true, selV]
  refine ifD_of (fun h1 => ?_) (fun h1 => ?_)
  · refine h9.store rfl fun H6 h9 f6 s6 => h9.load rfl ?_
    try simp only [sv_cons, sv_cons1, sc_cons, sc_cons1, asB_bool, ifB_true, ifB_false, un_not, bin_lss, bin_leq, bin_gtr, bin_geq, bin_eql, bin_neq, bin_add, bin_sub, bin_mul, ok_int, ok_bool, ok_slice, ok_str, ok_ptr, ok_map, ok_func, ok_iface, ok_nil, List.all_cons, List.all_nil, Bool.and_true, Bool.true_and, seg, setSeg, List.drop_succ_cons, List.drop_zero, List.take_succ_cons, List.take_zero, List.cons_append, List.nil_append, List.append_nil, List.length_cons, List.length_nil, List.drop_nil, List.size_toArray, Nat.reduceAdd, Nat.reduceLeDiff, Nat.reduceBEq, Nat.zero_add, Nat.le_refl, decide_true, mkV, List.headD_cons, cellsV, w_fldV, w_ext, w_fldP, List.getElem?_toArray, List.getElem?_cons_zero, List.getElem?_cons_succ, beq_self_eq_true, selV]
    exact hQ _ _ 0 0 _ [] H6 (by rw [if_neg h1, if_neg h1]; exact Rw.nil _ _) (g.then f6 fun y hy => by omega)
  have h0 : askE c d level bs = 0 := Decidable.not_not.1 h1
  rw [if_pos h0, if_pos h0, h0] at hQ
  have hm : may c d = true := by
    cases hm : may c d with
    | true => rfl
    | false => unfold askE at h0; rw [hm] at h0; cases h0
  have he : levE d level bs = 0 := by unfold askE at h0; rw [hm] at h0; exact h0
  obtain ⟨hlev, hbs⟩ := levE_zero.1 he
  refine (hb.g g).len ?_
  refine loop_up bs.length (fun i s H' => G H H' ∧ H5.size ≤ H'.size ∧ ∃ b1 b2 F v1 v2 ws, Rw H5.size H' b1 b2 F v1 ws ((bs.map (bk d level)).take i) v2 ((seesR d level bs).take i) ∧ Bx H' H3.size [v2] ∧ Bx H' H2.size [.int .i64 level] ∧ s = [[v1], [.int .i64 (i : Int)]])
    ⟨g, Nat.le_refl _, 0, 0, _, _, _, _, by simpa using Rw.nil H5.size H5, h9, h6, rfl⟩ ?_
  rintro i s H' K hi ⟨g, hs', b1, b2, F, v1, v2, ws, hr, h9, h6, rfl⟩ hK
  try simp only [sv_cons, sv_cons1, sc_cons, sc_cons1, asB_bool, ifB_true, ifB_false, un_not, bin_lss, bin_leq, bin_gtr, bin_geq, bin_eql, bin_neq, bin_add, bin_sub, bin_mul, ok_int, ok_bool, ok_slice, ok_str, ok_ptr, ok_map, ok_func, ok_iface, ok_nil, List.all_cons, List.all_nil, Bool.and_true, Bool.true_and, seg, setSeg, List.drop_succ_cons, List.drop_zero, List.take_succ_cons, List.take_zero, List.cons_append, List.nil_append, List.append_nil, List.length_cons, List.length_nil, List.drop_nil, List.size_toArray, Nat.reduceAdd, Nat.reduceLeDiff, Nat.reduceBEq, Nat.zero_add, Nat.le_refl, decide_true, mkV, List.headD_cons, cellsV, w_fldV, w_ext, w_fldP, List.getElem?_toArray, List.getElem?_cons_zero, List.getElem?_cons_succ, beq_self_eq_true, selV]
  refine ifD_of (fun h1 => ?_) (fun h1 => ?_)
  · have hlt : i < bs.length := by omega
    have hx : bs[i]? = some bs[i] := List.getElem?_eq_getElem hlt
    have hbi := hbs _ (List.getElem_mem hlt)
    have tk1 : (bs.map (bk d level)).take (i + 1) = (bs.map (bk d level)).take i ++ [bk d level bs[i]] := by rw [List.take_add_one]; simp [hx]
    have tk2 : (seesR d level bs).take (i + 1) = (seesR d level bs).take i ++ [⟨1, level, bs[i], bk d level bs[i]⟩] := by rw [List.take_add_one]; simp [seesR, hx]
    have ln1 : ((bs.map (bk d level)).take i).length = i := by simp; omega
    have ln2 : ((seesR d level bs).take i).length = i := by simp [seesR]; omega
    generalize bs[i] = bi at *
    refine (hb.g g).getI hx fun _ => h6.load rfl ?_
    try simp only [sv_cons, sv_cons1, sc_cons, sc_cons1, asB_bool, ifB_true, ifB_false, un_not, bin_lss, bin_leq, bin_gtr, bin_geq, bin_eql, bin_neq, bin_add, bin_sub, bin_mul, ok_int, ok_bool, ok_slice, ok_str, ok_ptr, ok_map, ok_func, ok_iface, ok_nil, List.all_cons, List.all_nil, Bool.and_true, Bool.true_and, seg, setSeg, List.drop_succ_cons, List.drop_zero, List.take_succ_cons, List.take_zero, List.cons_append, List.nil_append, List.append_nil, List.length_cons, List.length_nil, List.drop_nil, List.size_toArray, Nat.reduceAdd, Nat.reduceLeDiff, Nat.reduceBEq, Nat.zero_add, Nat.le_refl, decide_true, mkV, List.headD_cons, cellsV, w_fldV, w_ext, w_fldP, List.getElem?_toArray, List.getElem?_cons_zero, List.getElem?_cons_succ, beq_self_eq_true, selV]
    refine c_dev_one (ha.g g) hd hlev hbi fun u H6 g6 hu => hu .i64 H6 _ fun p w hp hw => hp.load rfl ?_
    have hcl := mid_bk hd (level := level) (b := bi)
    try simp only [sv_cons, sv_cons1, sc_cons, sc_cons1, asB_bool, ifB_true, ifB_false, un_not, bin_lss, bin_leq, bin_gtr, bin_geq, bin_eql, bin_neq, bin_add, bin_sub, bin_mul, ok_int, ok_bool, ok_slice, ok_str, ok_ptr, ok_map, ok_func, ok_iface, ok_nil, List.all_cons, List.all_nil, Bool.and_true, Bool.true_and, seg, setSeg, List.drop_succ_cons, List.drop_zero, List.take_succ_cons, List.take_zero, List.cons_append, List.nil_append, List.append_nil, List.length_cons, List.length_nil, List.drop_nil, List.size_toArray, Nat.reduceAdd, Nat.reduceLeDiff, Nat.reduceBEq, Nat.zero_add, Nat.le_refl, decide_true, mkV, List.headD_cons, cellsV, w_fldV, w_ext, w_fldP, List.getElem?_toArray, List.getElem?_cons_zero, List.getElem?_cons_succ, beq_self_eq_true, selV]
    refine c_Clone hw hcl fun x H7 bx hx7 g7 hbx => ?_
    have g67 := g6.trans g7
    have hs6 := g6.size
    have f1 := hr.f1
    have f2 := hr.f2
    have hs7 := g7.size
    refine (hr.g g6).push (by omega) g7 hx7 hbx rfl rfl (by rw [ln1]; omega) (by rw [ln1]; omega) fun v1' H8 b1' hr8 hf8 => ?_
    have h9 := (h9.g g67).up hf8 (show H3.size + 1 ≠ b1 by omega)
    have h6 := (h6.g g67).up hf8 (show H2.size + 1 ≠ b1 by omega)
    have gs := g.size
    have q8 : Fr (fun y => y < H.size) H6 H8 := Fr.trans g7 hf8 fun y _ (hy : y < H.size) => ⟨trivial, show y + 1 ≠ b1 by omega⟩
    have hw8 := hw.up q8 fun y hy _ => ⟨hy, hy⟩
    have hs8 := hf8.size
    have g8 : G H H8 := (g.trans g67).then hf8 fun y hy => show y + 1 ≠ b1 by omega
    refine c_dev_Read_1 hr8 (by omega) h9 h6 (by omega) (by omega) (by omega) hw8 hcl (by rw [ln2]; omega) fun v2' H9 b2' hr9 h9 h6 hf9 => ?_
    try simp only [sv_cons, sv_cons1, sc_cons, sc_cons1, asB_bool, ifB_true, ifB_false, un_not, bin_lss, bin_leq, bin_gtr, bin_geq, bin_eql, bin_neq, bin_add, bin_sub, bin_mul, ok_int, ok_bool, ok_slice, ok_str, ok_ptr, ok_map, ok_func, ok_iface, ok_nil, List.all_cons, List.all_nil, Bool.and_true, Bool.true_and, seg, setSeg, List.drop_succ_cons, List.drop_zero, List.take_succ_cons, List.take_zero, List.cons_append, List.nil_append, List.append_nil, List.length_cons, List.length_nil, List.drop_nil, List.size_toArray, Nat.reduceAdd, Nat.reduceLeDiff, Nat.reduceBEq, Nat.zero_add, Nat.le_refl, decide_true, mkV, List.headD_cons, cellsV, w_fldV, w_ext, w_fldP, List.getElem?_toArray, List.getElem?_cons_zero, List.getElem?_cons_succ, beq_self_eq_true, selV]
    rw [wrap_i64 (by unfold i64; omega)]
    have hs9 := hf9.size
    refine hK _ _ hlt ⟨g8.then hf9 fun y hy => show y < H5.size ∧ y ≠ H3.size by omega, by omega, b1', b2', fun y => F y ∨ y + 1 = bx, v1', v2', ws ++ [x], ?_, h9, h6, by simp⟩
    rw [tk1, tk2]
    exact hr9
  · have : i = bs.length := by omega
    subst this
    rw [List.take_of_length_le (by simp), List.take_of_length_le (by simp [seesR])] at hr
    refine h9.load rfl ?_
    try simp only [sv_cons, sv_cons1, sc_cons, sc_cons1, asB_bool, ifB_true, ifB_false, un_not, bin_lss, bin_leq, bin_gtr, bin_geq, bin_eql, bin_neq, bin_add, bin_sub, bin_mul, ok_int, ok_bool, ok_slice, ok_str, ok_ptr, ok_map, ok_func, ok_iface, ok_nil, List.all_cons, List.all_nil, Bool.and_true, Bool.true_and, seg, setSeg, List.drop_succ_cons, List.drop_zero, List.take_succ_cons, List.take_zero, List.cons_append, List.nil_append, List.append_nil, List.length_cons, List.length_nil, List.drop_nil, List.size_toArray, Nat.reduceAdd, Nat.reduceLeDiff, Nat.reduceBEq, Nat.zero_add, Nat.le_refl, decide_true, mkV, List.headD_cons, cellsV, w_fldV, w_ext, w_fldP, List.getElem?_toArray, List.getElem?_cons_zero, List.getElem?_cons_succ, beq_self_eq_true, selV]
    refine h9.store hr.o2.okcv fun H6 h9 f6 s6 => h9.load rfl ?_
    try simp only [sv_cons, sv_cons1, sc_cons, sc_cons1, asB_bool, ifB_true, ifB_false, un_not, bin_lss, bin_leq, bin_gtr, bin_geq, bin_eql, bin_neq, bin_add, bin_sub, bin_mul, ok_int, ok_bool, ok_slice, ok_str, ok_ptr, ok_map, ok_func, ok_iface, ok_nil, List.all_cons, List.all_nil, Bool.and_true, Bool.true_and, seg, setSeg, List.drop_succ_cons, List.drop_zero, List.take_succ_cons, List.take_zero, List.cons_append, List.nil_append, List.append_nil, List.length_cons, List.length_nil, List.drop_nil, List.size_toArray, Nat.reduceAdd, Nat.reduceLeDiff, Nat.reduceBEq, Nat.zero_add, Nat.le_refl, decide_true, mkV, List.headD_cons, cellsV, w_fldV, w_ext, w_fldP, List.getElem?_toArray, List.getElem?_cons_zero, List.getElem?_cons_succ, beq_self_eq_true, selV]
    have hs5 := g5.size
    have f1 := hr.f1
    have f2 := hr.f2
    have hr6 := hr.up f6 fun y hy _ => show y ≠ H3.size by omega
    exact hQ v1 v2 b1 b2 F ws H6 ⟨hr6.o1, hr6.lf, hr6.o2.mono fun y hy _ => ⟨by omega, hy.2⟩, fun y hy => by have := hr6.inF y hy; omega, hr6.ne, by omega, by omega⟩ (g.then f6 fun y hy => by omega)

/-! ### Writing -/

theorem c_dev_oneG {v w : Value} {level b : Int} {O : Nat → Prop} {n : Nat} (hr : ∀ (kd : IntKind) (k : Value → Prop), (∀ p, AtC H O p [w] → k p) → idxS 1 v (.int kd level) k)
    (hw : ∃ cap, 0 < n → ∃ q, w = .slice (some ⟨q, 0, none⟩) n cap ∧ n ≤ cap) (hb : 1 ≤ b ∧ b ≤ n) (hn : n ≤ 1000000)
    (hQ : ∀ u H', G H H' → (∀ (kd kd' : IntKind) (K : Value → Prop), idxS 1 w (.int kd (b - 1)) K → idxS 1 u (.int kd' 0) K) → Q u H') :
    callV Try.prog (fnV fn_dev_one) [.agg #[v], .int .i64 level, .int .i64 b] H Q := by
  apply S_dev_one_of
  unfold S_dev_one
  refine newT_of fun H1 g1 _ => hr _ _ fun p hp => (hp.g g1).load rfl ?_
  obtain ⟨cap, hw⟩ := hw
  obtain ⟨q, rfl, hcap⟩ := hw (by omega)
  try simp only [sv_cons, sv_cons1, sc_cons, sc_cons1, asB_bool, ifB_true, ifB_false, un_not, bin_lss, bin_leq, bin_gtr, bin_geq, bin_eql, bin_neq, bin_add, bin_sub, bin_mul, ok_int, ok_bool, ok_slice, ok_str, ok_ptr, ok_map, ok_func, ok_iface, ok_nil, List.all_cons, List.all_nil, Bool.and_true, Bool.true_and, seg, setSeg, List.drop_succ_cons, List.drop_zero, List.take_succ_cons, List.take_zero, List.cons_append, List.nil_append, List.append_nil, List.length_cons, List.length_nil, List.drop_nil, List.size_toArray, Nat.reduceAdd, Nat.reduceLeDiff, Nat.reduceBEq, Nat.zero_add, Nat.le_refl, decide_true, mkV, List.headD_cons, cellsV, w_fldV, w_ext, w_fldP, List.getElem?_toArray, List.getElem?_cons_zero, List.getElem?_cons_succ, beq_self_eq_true, selV]
  rw [wrap_i64 (x := b - 1) (by unfold i64; omega)]
  have key : slS 1 (.slice (some ⟨q, 0, none⟩) n cap) (some (.int .i64 (b - 1))) (some (.int .i64 (b - 1 + 1))) (some (.int .i64 (b - 1 + 1))) (fun u => Q u H1) :=
    sl3_of (by omega) (by omega) hcap fun u hu => hQ u H1 g1 hu
  rw [show b - 1 + 1 = b from by omega] at key
  exact key

theorem c_dev_Write_1 {x : Value} {b : Nat} {bs : By} {n : Int} (hx : Sl rU8 H A x bs) (hb : Bx H b [.int .i64 n]) (hQ : Q (.bool ((bs.length : Int) != n)) H) :
    callV Try.prog (.func (.func fn_dev_Write_1) #[] #[.pointer (some ⟨b, 0, none⟩)]) [x] H Q := by
  apply C_dev_Write_1_of
  unfold S_dev_Write_1
  refine hx.len (hb.load rfl ?_)
  try simp only [sv_cons, sv_cons1, sc_cons, sc_cons1, asB_bool, ifB_true, ifB_false, un_not, bin_lss, bin_leq, bin_gtr, bin_geq, bin_eql, bin_neq, bin_add, bin_sub, bin_mul, ok_int, ok_bool, ok_slice, ok_str, ok_ptr, ok_map, ok_func, ok_iface, ok_nil, List.all_cons, List.all_nil, Bool.and_true, Bool.true_and, seg, setSeg, List.drop_succ_cons, List.drop_zero, List.take_succ_cons, List.take_zero, List.cons_append, List.nil_append, List.append_nil, List.length_cons, List.length_nil, List.drop_nil, List.size_toArray, Nat.reduceAdd, Nat.reduceLeDiff, Nat.reduceBEq, Nat.zero_add, Nat.le_refl, decide_true, mkV, List.headD_cons, cellsV, w_fldV, w_ext, w_fldP, List.getElem?_toArray, List.getElem?_cons_zero, List.getElem?_cons_succ, beq_self_eq_true, selV]
  rw [show ((bs.length : Int) != n) = decide ((bs.length : Int) ≠ n) from by by_cases h : (bs.length : Int) = n <;> simp [h]] at hQ
  exact hQ

theorem c_dev_Write {c : Cfg} {a l w : Value} {d : Dv} {level : Int} {bs : List Int} {all : List By} (ha : Sl rBys H A a d) (hb : Sl (rI .i64) H B l bs) (hw : Sl rBy H C w all) (hd : Mid d) (hl : bs.length ≤ 1000000)
    (hl2 : all.length ≤ 1000000) (hlb : ∀ x ∈ all, x.length ≤ 1000000)
    (hQ : ∀ v1 v2 O F b H', Wt H.size H' O F v1 (if wrE c d level bs all = 0 then putAll d level bs all else []) b v2 (if wrE c d level bs all = 0 then seesW level bs all else []) → G H H' →
      Q (tup3 (.agg #[v1]) v2 (.int .i64 (wrE c d level bs all))) H') :
    callV Try.prog (fnV fn_dev_Write) [.agg (cCfg c).toArray, .agg #[a], .int .i64 level, l, w] H Q := by
  apply S_dev_Write_of
  unfold S_dev_Write
  have ha := ha.old
  have hb := hb.old
  have hw := hw.old
  have bad : ∀ e H', wrE c d level bs all = e → e ≠ 0 → G H H' → Q (tup3 (.agg #[.slice none 0 0]) (.slice none 0 0) (.int .i64 e)) H' := fun e H' he hne g => by
    have := hQ (.slice none 0 0) (.slice none 0 0) _ _ 0 H' (by rw [he, if_neg hne, if_neg hne]; exact Wt.nil _ _) g
    rw [he] at this; exact this
  refine newT_of fun H1 g1 s1 => newT_of fun H2 g2 s2 => newT_of fun H3 g3 s3 => ?_
  have g := (g1.trans g2).trans g3
  refine c_dev_asked (ha.g g) (hb.g g) hd hl fun H4 g4 => ?_
  have g := g.trans g4
  try simp only [sv_cons, sv_cons1, sc_cons, sc_cons1, asB_bool, ifB_true, ifB_false, un_not, bin_lss, bin_leq, bin_gtr, bin_geq, bin_eql, bin_neq, bin_add, bin_sub, bin_mul, ok_int, ok_bool, ok_slice, ok_str, ok_ptr, ok_map, ok_func, ok_iface, ok_nil, List.all_cons, List.all_nil, Bool.and_true, Bool.true_and, seg, setSeg, List.drop_succ_cons, List.drop_zero, List.take_succ_cons, List.take_zero, List.cons_append, List.nil_append, List.append_nil, List.length_cons, List.length_nil, List.drop_nil, List.size_toArray, Nat.reduceAdd, Nat.reduceLeDiff, Nat.reduceBEq, Nat.zero_add, Nat.le_refl, decide_true, mkV, List.headD_cons, cellsV, w_fldV, w_ext, w_fldP, List.getElem?_toArray, List.getElem?_cons_zero, List.getElem?_cons_succ, beq_self_eq_true, selV]
  refine ifD_of (fun h1 => bad _ _ (by unfold wrE; rw [if_pos h1]) h1 g) (fun h1 => ?_)
  have h0 : askE c d level bs = 0 := Decidable.not_not.1 h1
  have hm : may c d = true := by
    cases hm : may c d with
    | true => rfl
    | false => unfold askE at h0; rw [hm] at h0; cases h0
  have he : levE d level bs = 0 := by unfold askE at h0; rw [hm] at h0; exact h0
  obtain ⟨hlev, hbs⟩ := levE_zero.1 he
  have hlv := lvl_get hlev
  have hpos := may_pos hm hlv
  have hb0 : (lvlOf d level)[0]? = some (bk d level 1) := bk_get (b := 1) ⟨by omega, by omega⟩
  refine (ha.g g).getSZ hlev.1 hlv fun u2 hu2 => hu2.getSZ (z := 0) (by omega) hb0 fun u3 hu3 => hu3.len ?_
  refine newC_bx fun H5 b5 g5 s5 => b5.store rfl fun H6 b6 f6 s6 => ?_
  have g6 : G H4 H6 := g5.then f6 fun y hy => by omega
  have g := g.trans g6
  have ewr : wrE c d level bs all = if all.length ≠ bs.length ∨ all.any (fun b => (b.length : Int) != bkSize d level) then 2 else 0 := by
    unfold wrE
    rw [if_neg h1]
  refine join_of (fun s H' => H' = H6 ∧ s = [[.bool (decide (all.length ≠ bs.length ∨ all.any (fun b => (b.length : Int) != bkSize d level) = true))]]) (fun K hK => ?_) ?_
  · refine hw.len (hb.len ?_)
    try simp only [sv_cons, sv_cons1, sc_cons, sc_cons1, asB_bool, ifB_true, ifB_false, un_not, bin_lss, bin_leq, bin_gtr, bin_geq, bin_eql, bin_neq, bin_add, bin_sub, bin_mul, ok_int, ok_bool, ok_slice, ok_str, ok_ptr, ok_map, ok_func, ok_iface, ok_nil, List.all_cons, List.all_nil, Bool.and_true, Bool.true_and, seg, setSeg, List.drop_succ_cons, List.drop_zero, List.take_succ_cons, List.take_zero, List.cons_append, List.nil_append, List.append_nil, List.length_cons, List.length_nil, List.drop_nil, List.size_toArray, Nat.reduceAdd, Nat.reduceLeDiff, Nat.reduceBEq, Nat.zero_add, Nat.le_refl, decide_true, mkV, List.headD_cons, cellsV, w_fldV, w_ext, w_fldP, List.getElem?_toArray, List.getElem?_cons_zero, List.getElem?_cons_succ, beq_self_eq_true, selV]
    refine ifD_of (fun h2 => hK _ _ ⟨rfl, jb_t (.inl (by omega))⟩) (fun h2 => ?_)
    refine c_Contains_by (p := fun b => (b.length : Int) != bkSize d level) (hw.g g) hl2 (fun u x K hx hK => c_dev_Write_1 hx b6 hK) (hK _ _ ⟨rfl, ?_⟩)
    cases hany : all.any (fun b => (b.length : Int) != bkSize d level) with
    | true => exact jb_t (.inr rfl)
    | false => exact jb_f (by simp; omega)
  rintro s H' ⟨rfl, rfl⟩
  try simp only [sv_cons, sv_cons1, sc_cons, sc_cons1, asB_bool, ifB_true, ifB_false, un_not, bin_lss, bin_leq, bin_gtr, bin_geq, bin_eql, bin_neq, bin_add, bin_sub, bin_mul, ok_int, ok_bool, ok_slice, ok_str, ok_ptr, ok_map, ok_func, ok_iface, ok_nil, List.all_cons, List.all_nil, Bool.and_true, Bool.true_and, seg, setSeg, List.drop_succ_cons, List.drop_zero, List.take_succ_cons, List.take_zero, List.cons_append, List.nil_append, List.append_nil, List.length_cons, List.length_nil, List.drop_nil, List.size_toArray, Nat.reduceAdd, Nat.reduceLeDiff, Nat.reduceBEq, Nat.zero_add, Nat.le_refl, decide_true, mkV, List.headD_cons, cellsV, w_fldV, w_ext, w_fldP, List.getElem?_toArray, List.getElem?_cons_zero, List.getElem?_cons_succ, beq_self_eq_true, selV]
  refine ifD_of (fun h2 => bad 2 _ (by rw [ewr, if_pos h2]) (by omega) g) (fun h2 => ?_)
  have e0 : wrE c d level bs all = 0 := by rw [ewr, if_neg h2]
  rw [if_pos e0, if_pos e0, e0] at hQ
  have hla : all.length = bs.length := by omega
  refine c_dev_Twin (ha.g g) hd fun v H7 hc => ?_
  have hc := hc.of g
  obtain ⟨O, F, hdv, hOF⟩ := hc.out
  try simp only [sv_cons, sv_cons1, sc_cons, sc_cons1, asB_bool, ifB_true, ifB_false, un_not, bin_lss, bin_leq, bin_gtr, bin_geq, bin_eql, bin_neq, bin_add, bin_sub, bin_mul, ok_int, ok_bool, ok_slice, ok_str, ok_ptr, ok_map, ok_func, ok_iface, ok_nil, List.all_cons, List.all_nil, Bool.and_true, Bool.true_and, seg, setSeg, List.drop_succ_cons, List.drop_zero, List.take_succ_cons, List.take_zero, List.cons_append, List.nil_append, List.append_nil, List.length_cons, List.length_nil, List.drop_nil, List.size_toArray, Nat.reduceAdd, Nat.reduceLeDiff, Nat.reduceBEq, Nat.zero_add, Nat.le_refl, decide_true, mkV, List.headD_cons, cellsV, w_fldV, w_ext, w_fldP, List.getElem?_toArray, List.getElem?_cons_zero, List.getElem?_cons_succ, beq_self_eq_true, selV, hdv.okcv]
  refine hb.len ?_
  refine loop_up bs.length (fun i s H' => G H H' ∧ ∃ F b vs, Wt H.size H' O F v (putAll d level (bs.take i) (all.take i)) b vs (seesW level (bs.take i) (all.take i)) ∧ s = [[vs], [.int .i64 (i : Int)]])
    ⟨hc.g, F, 0, _, ⟨by simpa [putAll] using hdv, by simpa [seesW] using Ow.nil rSee H7 _, fun y hy => by have := hOF y hy; omega, .inl rfl⟩, rfl⟩ ?_
  rintro i s H' K hi ⟨g, F, b, vs, ht, rfl⟩ hK
  try simp only [sv_cons, sv_cons1, sc_cons, sc_cons1, asB_bool, ifB_true, ifB_false, un_not, bin_lss, bin_leq, bin_gtr, bin_geq, bin_eql, bin_neq, bin_add, bin_sub, bin_mul, ok_int, ok_bool, ok_slice, ok_str, ok_ptr, ok_map, ok_func, ok_iface, ok_nil, List.all_cons, List.all_nil, Bool.and_true, Bool.true_and, seg, setSeg, List.drop_succ_cons, List.drop_zero, List.take_succ_cons, List.take_zero, List.cons_append, List.nil_append, List.append_nil, List.length_cons, List.length_nil, List.drop_nil, List.size_toArray, Nat.reduceAdd, Nat.reduceLeDiff, Nat.reduceBEq, Nat.zero_add, Nat.le_refl, decide_true, mkV, List.headD_cons, cellsV, w_fldV, w_ext, w_fldP, List.getElem?_toArray, List.getElem?_cons_zero, List.getElem?_cons_succ, beq_self_eq_true, selV]
  refine ifD_of (fun h1 => ?_) (fun h1 => ?_)
  · have hlt : i < bs.length := by omega
    have hx : bs[i]? = some bs[i] := List.getElem?_eq_getElem hlt
    have hy : all[i]? = some (all[i]'(by omega)) := List.getElem?_eq_getElem _
    have hbi := hbs _ (List.getElem_mem hlt)
    have hxl := hlb _ (List.getElem_mem (l := all) (n := i) (by omega))
    have htl : (bs.take i).length = (all.take i).length := by simp; omega
    have t1 : bs.take (i + 1) = bs.take i ++ [bs[i]] := List.take_succ_eq_append_getElem hlt
    have tk2 : all.take (i + 1) = all.take i ++ [all[i]'(by omega)] := List.take_succ_eq_append_getElem (by omega)
    have hmid := mid_len hd (level := level)
    have hs0 := g.size
    generalize bs[i] = bi at *
    generalize all[i]'(by omega) = x at *
    have hlv1 : 0 ≤ level ∧ level < (putAll d level (bs.take i) (all.take i)).length := by rw [putAll_len]; exact hlev
    have hpl := putAll_lvl (level := level) (l := bs.take i) (all := all.take i) (d := d) hlev
    have hdi := lvl_get hlv1
    obtain ⟨wl, hr1, hr2, hcap, hput⟩ := ht.dv.getZ hlev.1 hdi
    refine (hb.g g).getI hx fun _ => ?_
    refine (hw.g g).atS hy fun r u hr hu => hr.load rfl ?_
    try simp only [sv_cons, sv_cons1, sc_cons, sc_cons1, asB_bool, ifB_true, ifB_false, un_not, bin_lss, bin_leq, bin_gtr, bin_geq, bin_eql, bin_neq, bin_add, bin_sub, bin_mul, ok_int, ok_bool, ok_slice, ok_str, ok_ptr, ok_map, ok_func, ok_iface, ok_nil, List.all_cons, List.all_nil, Bool.and_true, Bool.true_and, seg, setSeg, List.drop_succ_cons, List.drop_zero, List.take_succ_cons, List.take_zero, List.cons_append, List.nil_append, List.append_nil, List.length_cons, List.length_nil, List.drop_nil, List.size_toArray, Nat.reduceAdd, Nat.reduceLeDiff, Nat.reduceBEq, Nat.zero_add, Nat.le_refl, decide_true, mkV, List.headD_cons, cellsV, w_fldV, w_ext, w_fldP, List.getElem?_toArray, List.getElem?_cons_zero, List.getElem?_cons_succ, beq_self_eq_true, selV]
    refine c_dev_oneG hr1 hcap (by omega) (by omega) fun t H8 g8 ht8 => ⟨(hr.g g8).load rfl rfl, ?_⟩
    refine c_Clone (hu.g g8) hxl fun w1 H9 c1 hw1 g9 hc1 => ?_
    have g89 := g8.trans g9
    have hs8 := g8.size
    obtain ⟨ht9, hlf⟩ : Wt H.size H9 O (fun y => F y ∨ y + 1 = c1) v (putAll d level (bs.take i) (all.take i)) b vs (seesW level (bs.take i) (all.take i)) ∧ Lf H9 (fun y => F y ∨ y + 1 = c1) w1 x := by
      rcases hc1 with rfl | hc1
      · exact ⟨⟨(ht.g g89).dv.wider (fun y hy => .inl hy) fun y hO hF => hF.elim (ht.dv.dis y hO) (fun e => by omega), (ht.g g89).ss.mono fun y hy _ => ⟨hy.1, hy.2.1, fun hF => hF.elim hy.2.2.1 (fun e => by omega), hy.2.2.2⟩,
          fun y hy => (ht.g g89).inO y (hy.imp id fun h => h.elim id fun e => by omega), ht.fb⟩, (Ow.lf hw1).fr fun y hy _ => ⟨.inr hy, rfl⟩⟩
      · exact ht.leaf hs0 g89 hw1 (by omega)
    refine ht8 .i64 .i64 _ (hput H9 _ g89.fr (fun y hy => .inl hy) ht9.dv.dis w1 x (bi - 1) _ _ hlf (by omega) (by omega) fun H10 hd10 hf10 hs10 => ?_)
    have ht10 := ht9.put (d' := putB (putAll d level (bs.take i) (all.take i)) level bi x) hd10 hf10 hs10
    have hO : ∀ y, O y → H.size ≤ y := fun y hy => (ht.inO y (.inl hy)).1
    have g10 : G H H10 := (g.trans g89).then hf10 fun y hy => show ¬ O y from fun h => by have := hO y h; omega
    refine (hw.g g10).getS hy fun u2 hu2 => c_Clone hu2 hxl fun w2 H11 c2 hw2 g11 hc2 => ?_
    try simp only [sv_cons, sv_cons1, sc_cons, sc_cons1, asB_bool, ifB_true, ifB_false, un_not, bin_lss, bin_leq, bin_gtr, bin_geq, bin_eql, bin_neq, bin_add, bin_sub, bin_mul, ok_int, ok_bool, ok_slice, ok_str, ok_ptr, ok_map, ok_func, ok_iface, ok_nil, List.all_cons, List.all_nil, Bool.and_true, Bool.true_and, seg, setSeg, List.drop_succ_cons, List.drop_zero, List.take_succ_cons, List.take_zero, List.cons_append, List.nil_append, List.append_nil, List.length_cons, List.length_nil, List.drop_nil, List.size_toArray, Nat.reduceAdd, Nat.reduceLeDiff, Nat.reduceBEq, Nat.zero_add, Nat.le_refl, decide_true, mkV, List.headD_cons, cellsV, w_fldV, w_ext, w_fldP, List.getElem?_toArray, List.getElem?_cons_zero, List.getElem?_cons_succ, beq_self_eq_true, selV, hw2.okcv]
    have ht11 := ht10.g g11
    have hls := seesW_len (level := level) htl
    have hlb' := (show (bs.take i).length = i by simp; omega)
    have hfb := ht10.fb
    have hs10' := g10.size
    have hbl := ht10.ss.lt
    have hs11 := g11.size
    refine bld_one (R := rSee) (vrep_see (H' := H11) (level := level) (kind := 2) (bucket := bi) (hw2.slF (A' := fun y => y + 1 = c2) fun k hk => hk.symm)) rfl (fun h => by cases h) rfl fun t3 H12 ht12 g12 s12 => ?_
    refine (ht11.g g12).app (by omega) ht12.src rfl (fun y hy _ => ⟨by omega, fun hO => ?_, fun hF => ?_, by omega⟩) (by simp; omega) (by simp; omega) fun u3 H13 b' ht13 hf13 => ?_
    · have := (ht10.inO y (.inl hO)).2.1; omega
    · have := (ht10.inO y (.inr hF)).2.1; omega
    try simp only [sv_cons, sv_cons1, sc_cons, sc_cons1, asB_bool, ifB_true, ifB_false, un_not, bin_lss, bin_leq, bin_gtr, bin_geq, bin_eql, bin_neq, bin_add, bin_sub, bin_mul, ok_int, ok_bool, ok_slice, ok_str, ok_ptr, ok_map, ok_func, ok_iface, ok_nil, List.all_cons, List.all_nil, Bool.and_true, Bool.true_and, seg, setSeg, List.drop_succ_cons, List.drop_zero, List.take_succ_cons, List.take_zero, List.cons_append, List.nil_append, List.append_nil, List.length_cons, List.length_nil, List.drop_nil, List.size_toArray, Nat.reduceAdd, Nat.reduceLeDiff, Nat.reduceBEq, Nat.zero_add, Nat.le_refl, decide_true, mkV, List.headD_cons, cellsV, w_fldV, w_ext, w_fldP, List.getElem?_toArray, List.getElem?_cons_zero, List.getElem?_cons_succ, beq_self_eq_true, selV]
    rw [wrap_i64 (by unfold i64; omega)]
    refine hK _ _ hlt ⟨((g10.trans g11).trans g12).then hf13 fun y hy => show y + 1 ≠ b by omega, fun y => F y ∨ y + 1 = c1, b', u3, ?_, by simp⟩
    rw [t1, tk2, putAll_snoc htl, seesW_snoc htl]
    exact ht13
  · have : i = bs.length := by omega
    subst this
    rw [List.take_length, ← hla, List.take_length] at ht
    try simp only [sv_cons, sv_cons1, sc_cons, sc_cons1, asB_bool, ifB_true, ifB_false, un_not, bin_lss, bin_leq, bin_gtr, bin_geq, bin_eql, bin_neq, bin_add, bin_sub, bin_mul, ok_int, ok_bool, ok_slice, ok_str, ok_ptr, ok_map, ok_func, ok_iface, ok_nil, List.all_cons, List.all_nil, Bool.and_true, Bool.true_and, seg, setSeg, List.drop_succ_cons, List.drop_zero, List.take_succ_cons, List.take_zero, List.cons_append, List.nil_append, List.append_nil, List.length_cons, List.length_nil, List.drop_nil, List.size_toArray, Nat.reduceAdd, Nat.reduceLeDiff, Nat.reduceBEq, Nat.zero_add, Nat.le_refl, decide_true, mkV, List.headD_cons, cellsV, w_fldV, w_ext, w_fldP, List.getElem?_toArray, List.getElem?_cons_zero, List.getElem?_cons_succ, beq_self_eq_true, selV, ht.dv.okcv]
    exact hQ v vs O F b H' ht g

/-! ### What was seen, replayed -/

end Go.Proofs.Ytlalkgkicccjiaa
