/- Contracts: the devices of the program. -/
import Derived.Test.YtlmpjhbfgakgdaaDoorConRef12c
namespace Go.Proofs.YtlmpjhbfgakgdaaDoor
open Go.Ab Go.Md
set_option linter.unusedVariables false
set_option linter.unusedSimpArgs false
set_option maxRecDepth 20000

variable {H : Heap} {Q : Value → Heap → Prop} {A B C : Nat → Prop}

/-! ### Clones -/

/-- A clone: nothing, or fresh bytes. -/
theorem c_Clone {x : Value} {bs : By} (hx : Sl rU8 H A x bs) (hl : bs.length ≤ 1000000) (hQ : ∀ u H' b, Ow rU8 H' b (fun _ => False) u bs → G H H' → (b = 0 ∨ H.size < b) → Q u H') : callV Tryd.prog (fnV fn_slices_Clone_byte_byte) [x] H Q := by
  apply S_slices_Clone_byte_byte_of
  unfold S_slices_Clone_byte_byte
  have h0 := hx
  obtain ⟨a, cap, css, rfl, h2, h3, h4⟩ := hx
  simp only [binV, binR]
  refine ifB_of (fun ha => ?_) (fun ha => ?_)
  · have : bs = [] := by
      rcases h4 with h | ⟨b, o, rfl, _⟩
      · exact h
      · cases ha
    subst this
    exact hQ _ H 0 (Ow.nil _ _ _) (G.fr (Fr.refl _ _)) (.inl rfl)
  · exact clone_of h0 rfl hl fun u H' b ho g hb hb' => hQ u H' b ho g (.inr hb)

theorem Cd.okcv {H' : Heap} {v : Value} {d : Dv} (h : Cd H H' v d) : okc v = true := by obtain ⟨⟨b, bs, vs, vss, F, h1, _⟩, _⟩ := h; exact h1.outer.okcv

/-! ### The same -/

/-! ### May a device be? -/

theorem any_step {α : Type} {xs : List α} {p : α → Bool} {i : Nat} (h : ∀ x ∈ xs.take i, p x = false) (hi : xs.length ≤ i) : xs.any p = false := by
  rw [List.take_of_length_le hi] at h
  rw [List.any_eq_false]
  intro x hx; rw [h x hx]; simp

theorem c_Contains_int {a fv : Value} {xs : List Int} {p : Int → Bool} (ha : Sl (rI .i64) H A a xs) (hl : xs.length ≤ 1000000) (hf : ∀ x (K : Value → Heap → Prop), K (.bool (p x)) H → callV Tryd.prog fv [.int .i64 x] H K)
    (hQ : Q (.bool (xs.any p)) H) : callV Tryd.prog (fnV fn_slices_ContainsFunc_int_int) [a, fv] H Q := by
  apply S_slices_ContainsFunc_int_int_of
  unfold S_slices_ContainsFunc_int_int
  apply S_slices_IndexFunc_int_int_of
  unfold S_slices_IndexFunc_int_int
  refine ha.len ?_
  refine loop_up xs.length (fun i s H' => s = [[.int .i64 (i : Int)]] ∧ H' = H ∧ ∀ x ∈ xs.take i, p x = false) ⟨rfl, rfl, by simp⟩ ?_
  rintro i s H' K hi ⟨rfl, rfl, ht⟩ hK
  try simp only [sv_cons, sv_cons1, sc_cons, sc_cons1, asB_bool, ifB_true, ifB_false, un_not, bin_lss, bin_leq, bin_gtr, bin_geq, bin_eql, bin_neq, bin_add, bin_sub, bin_mul, ok_int, ok_bool, ok_slice, ok_str, ok_ptr, ok_map, ok_func, ok_iface, ok_nil, List.all_cons, List.all_nil, Bool.and_true, Bool.true_and, seg, setSeg, List.drop_succ_cons, List.drop_zero, List.take_succ_cons, List.take_zero, List.cons_append, List.nil_append, List.append_nil, List.length_cons, List.length_nil, List.drop_nil, List.size_toArray, Nat.reduceAdd, Nat.reduceLeDiff, Nat.reduceBEq, Nat.zero_add, Nat.le_refl, decide_true, mkV, List.headD_cons, cellsV, w_fldV, w_ext, w_fldP, List.getElem?_toArray, List.getElem?_cons_zero, List.getElem?_cons_succ, beq_self_eq_true, selV]
  refine ifD_of (fun hlt => ?_) (fun hge => ?_)
  · have hlt : i < xs.length := by omega
    refine ha.getI (List.getElem?_eq_getElem hlt) fun _ => hf _ _ ?_
    try simp only [sv_cons, sv_cons1, sc_cons, sc_cons1, asB_bool, ifB_true, ifB_false, un_not, bin_lss, bin_leq, bin_gtr, bin_geq, bin_eql, bin_neq, bin_add, bin_sub, bin_mul, ok_int, ok_bool, ok_slice, ok_str, ok_ptr, ok_map, ok_func, ok_iface, ok_nil, List.all_cons, List.all_nil, Bool.and_true, Bool.true_and, seg, setSeg, List.drop_succ_cons, List.drop_zero, List.take_succ_cons, List.take_zero, List.cons_append, List.nil_append, List.append_nil, List.length_cons, List.length_nil, List.drop_nil, List.size_toArray, Nat.reduceAdd, Nat.reduceLeDiff, Nat.reduceBEq, Nat.zero_add, Nat.le_refl, decide_true, mkV, List.headD_cons, cellsV, w_fldV, w_ext, w_fldP, List.getElem?_toArray, List.getElem?_cons_zero, List.getElem?_cons_succ, beq_self_eq_true, selV]
    cases hp : p xs[i] with
    | true =>
      rw [List.any_eq_true.2 ⟨xs[i], List.getElem_mem hlt, hp⟩] at hQ
      try simp only [sv_cons, sv_cons1, sc_cons, sc_cons1, asB_bool, ifB_true, ifB_false, un_not, bin_lss, bin_leq, bin_gtr, bin_geq, bin_eql, bin_neq, bin_add, bin_sub, bin_mul, ok_int, ok_bool, ok_slice, ok_str, ok_ptr, ok_map, ok_func, ok_iface, ok_nil, List.all_cons, List.all_nil, Bool.and_true, Bool.true_and, seg, setSeg, List.drop_succ_cons, List.drop_zero, List.take_succ_cons, List.take_zero, List.cons_append, List.nil_append, List.append_nil, List.length_cons, List.length_nil, List.drop_nil, List.size_toArray, Nat.reduceAdd, Nat.reduceLeDiff, Nat.reduceBEq, Nat.zero_add, Nat.le_refl, decide_true, mkV, List.headD_cons, cellsV, w_fldV, w_ext, w_fldP, List.getElem?_toArray, List.getElem?_cons_zero, List.getElem?_cons_succ, beq_self_eq_true, selV]
      rw [decide_eq_true (by omega)]; exact hQ
    | false =>
      try simp only [sv_cons, sv_cons1, sc_cons, sc_cons1, asB_bool, ifB_true, ifB_false, un_not, bin_lss, bin_leq, bin_gtr, bin_geq, bin_eql, bin_neq, bin_add, bin_sub, bin_mul, ok_int, ok_bool, ok_slice, ok_str, ok_ptr, ok_map, ok_func, ok_iface, ok_nil, List.all_cons, List.all_nil, Bool.and_true, Bool.true_and, seg, setSeg, List.drop_succ_cons, List.drop_zero, List.take_succ_cons, List.take_zero, List.cons_append, List.nil_append, List.append_nil, List.length_cons, List.length_nil, List.drop_nil, List.size_toArray, Nat.reduceAdd, Nat.reduceLeDiff, Nat.reduceBEq, Nat.zero_add, Nat.le_refl, decide_true, mkV, List.headD_cons, cellsV, w_fldV, w_ext, w_fldP, List.getElem?_toArray, List.getElem?_cons_zero, List.getElem?_cons_succ, beq_self_eq_true, selV]
      rw [wrap_succ (by omega)]
      refine hK _ _ hlt ⟨rfl, rfl, fun x hx => ?_⟩
      rw [List.take_succ_eq_append_getElem hlt, List.mem_append, List.mem_singleton] at hx
      rcases hx with h | rfl
      · exact ht x h
      · exact hp
  · rw [any_step ht (by omega)] at hQ
    try simp only [sv_cons, sv_cons1, sc_cons, sc_cons1, asB_bool, ifB_true, ifB_false, un_not, bin_lss, bin_leq, bin_gtr, bin_geq, bin_eql, bin_neq, bin_add, bin_sub, bin_mul, ok_int, ok_bool, ok_slice, ok_str, ok_ptr, ok_map, ok_func, ok_iface, ok_nil, List.all_cons, List.all_nil, Bool.and_true, Bool.true_and, seg, setSeg, List.drop_succ_cons, List.drop_zero, List.take_succ_cons, List.take_zero, List.cons_append, List.nil_append, List.append_nil, List.length_cons, List.length_nil, List.drop_nil, List.size_toArray, Nat.reduceAdd, Nat.reduceLeDiff, Nat.reduceBEq, Nat.zero_add, Nat.le_refl, decide_true, mkV, List.headD_cons, cellsV, w_fldV, w_ext, w_fldP, List.getElem?_toArray, List.getElem?_cons_zero, List.getElem?_cons_succ, beq_self_eq_true, selV]
    exact hQ

/-! ### Buckets that are asked -/

/-! ### Devices of noughts -/

theorem Cl.of {H' H1 : Heap} {v : Value} {b : Nat} {vs : List Value} {F : Nat → Prop} {xs : List By} (h : Cl H1 H' v b vs F xs) (g : G H H1) : Cl H H' v b vs F xs := by
  have := g.size
  exact ⟨h.own, h.leaves, by have := h.fresh; omega, fun y hy => by have := h.freshF y hy; omega, g.trans h.g⟩

/-! ### Reading -/

/-! ### Writing -/

/-! ### What was seen, replayed -/

end Go.Proofs.YtlmpjhbfgakgdaaDoor
