/- Contracts: orders of cells. -/
import Derived.Test.YtikebhnnmnlgaaaConOrd3
import Derived.Test.YtikebhnnmnlgaaaMdOrd2
namespace Go.Proofs.Ytikebhnnmnlgaaa
open Go.Ab Go.Md
set_option linter.unusedVariables false
set_option linter.unusedSimpArgs false
set_option maxRecDepth 20000

variable {H : Heap} {Q : Value → Heap → Prop} {A B C : Nat → Prop}

theorem c_order_Perm_1_1 {zs : List Int} {zv : Value} {m r a5 a8 : Nat} (h5 : Bx H a5 [zv]) (h8 : Bx H a8 [.int .i64 (r : Int)]) (hz : Sl (rI .i64) H A zv zs) (hA : ∀ y, A y → y ≠ a8) (ne : a5 ≠ a8) (hrm : r ≤ m) (hm : m < zs.length)
    (hbig : zs.length ≤ 100000) (hlt : ∀ k, r ≤ k → k < m → ∃ z, zs[k]? = some z ∧ z > 0) (hmz : ∃ z, zs[m]? = some z ∧ ¬ z > 0) (hQ : ∀ H', Bx H' a8 [.int .i64 ((m + 1 : Nat) : Int)] → Fr (fun y => y ≠ a8) H H' → Q (.int .i64 (m : Int)) H') :
    callV Try.prog (.func (.func fn_order_Perm_1_1) #[] #[.pointer (some ⟨a5, 0, none⟩), .pointer (some ⟨a8, 0, none⟩)]) [] H Q := by
  apply C_order_Perm_1_1_of
  unfold S_order_Perm_1_1
  refine loop_up (m - r) (fun n s H' => s = [] ∧ Bx H' a8 [.int .i64 ((r + n : Nat) : Int)] ∧ Fr (fun y => y ≠ a8) H H') ⟨rfl, h8, Fr.refl _ _⟩ ?_
  rintro n s H1 K hn ⟨rfl, h8, f1⟩ hK
  refine (h5.up f1 ne).load rfl (h8.load rfl ?_)
  have hz1 := hz.up f1 fun y hy _ => ⟨hA y hy, hy⟩
  by_cases he : r + n = m
  · obtain ⟨z, hz2, hz3⟩ := hmz
    rw [← he] at hz2
    refine hz1.getI hz2 fun _ => ?_
    try simp only [sv_cons, sv_cons1, sc_cons, sc_cons1, asB_bool, ifB_true, ifB_false, un_not, bin_lss, bin_leq, bin_gtr, bin_geq, bin_eql, bin_neq, bin_add, bin_sub, bin_mul, ok_int, ok_bool, ok_slice, ok_str, ok_ptr, ok_map, ok_func, ok_iface, ok_nil, List.all_cons, List.all_nil, Bool.and_true, Bool.true_and, seg, setSeg, List.drop_succ_cons, List.drop_zero, List.take_succ_cons, List.take_zero, List.cons_append, List.nil_append, List.append_nil, List.length_cons, List.length_nil, List.drop_nil, List.size_toArray, Nat.reduceAdd, Nat.reduceLeDiff, Nat.reduceBEq, Nat.zero_add, Nat.le_refl, decide_true, mkV, List.headD_cons, cellsV, w_fldV, w_ext, w_fldP, List.getElem?_toArray, List.getElem?_cons_zero, List.getElem?_cons_succ, beq_self_eq_true, selV]
    refine ifD_of (fun h => (hz3 h).elim) (fun _ => ?_)
    refine h8.load rfl ?_
    try simp only [sv_cons, sv_cons1, sc_cons, sc_cons1, asB_bool, ifB_true, ifB_false, un_not, bin_lss, bin_leq, bin_gtr, bin_geq, bin_eql, bin_neq, bin_add, bin_sub, bin_mul, ok_int, ok_bool, ok_slice, ok_str, ok_ptr, ok_map, ok_func, ok_iface, ok_nil, List.all_cons, List.all_nil, Bool.and_true, Bool.true_and, seg, setSeg, List.drop_succ_cons, List.drop_zero, List.take_succ_cons, List.take_zero, List.cons_append, List.nil_append, List.append_nil, List.length_cons, List.length_nil, List.drop_nil, List.size_toArray, Nat.reduceAdd, Nat.reduceLeDiff, Nat.reduceBEq, Nat.zero_add, Nat.le_refl, decide_true, mkV, List.headD_cons, cellsV, w_fldV, w_ext, w_fldP, List.getElem?_toArray, List.getElem?_cons_zero, List.getElem?_cons_succ, beq_self_eq_true, selV]
    rw [wrap_i64 (x := ((r + n : Nat) : Int) + 1) (by unfold i64; omega)]
    refine h8.store rfl fun H2 h8 f2 s2 => h8.load rfl ?_
    try simp only [sv_cons, sv_cons1, sc_cons, sc_cons1, asB_bool, ifB_true, ifB_false, un_not, bin_lss, bin_leq, bin_gtr, bin_geq, bin_eql, bin_neq, bin_add, bin_sub, bin_mul, ok_int, ok_bool, ok_slice, ok_str, ok_ptr, ok_map, ok_func, ok_iface, ok_nil, List.all_cons, List.all_nil, Bool.and_true, Bool.true_and, seg, setSeg, List.drop_succ_cons, List.drop_zero, List.take_succ_cons, List.take_zero, List.cons_append, List.nil_append, List.append_nil, List.length_cons, List.length_nil, List.drop_nil, List.size_toArray, Nat.reduceAdd, Nat.reduceLeDiff, Nat.reduceBEq, Nat.zero_add, Nat.le_refl, decide_true, mkV, List.headD_cons, cellsV, w_fldV, w_ext, w_fldP, List.getElem?_toArray, List.getElem?_cons_zero, List.getElem?_cons_succ, beq_self_eq_true, selV]
    rw [wrap_i64 (by unfold i64; omega)]
    have := hQ H2 (by rw [← he]; simpa using h8) (Fr.trans f1 f2 fun y _ hy => ⟨hy, hy⟩)
    rw [← he] at this
    simpa using this
  · obtain ⟨z, hz2, hz3⟩ := hlt (r + n) (by omega) (by omega)
    refine hz1.getI hz2 fun _ => ?_
    try simp only [sv_cons, sv_cons1, sc_cons, sc_cons1, asB_bool, ifB_true, ifB_false, un_not, bin_lss, bin_leq, bin_gtr, bin_geq, bin_eql, bin_neq, bin_add, bin_sub, bin_mul, ok_int, ok_bool, ok_slice, ok_str, ok_ptr, ok_map, ok_func, ok_iface, ok_nil, List.all_cons, List.all_nil, Bool.and_true, Bool.true_and, seg, setSeg, List.drop_succ_cons, List.drop_zero, List.take_succ_cons, List.take_zero, List.cons_append, List.nil_append, List.append_nil, List.length_cons, List.length_nil, List.drop_nil, List.size_toArray, Nat.reduceAdd, Nat.reduceLeDiff, Nat.reduceBEq, Nat.zero_add, Nat.le_refl, decide_true, mkV, List.headD_cons, cellsV, w_fldV, w_ext, w_fldP, List.getElem?_toArray, List.getElem?_cons_zero, List.getElem?_cons_succ, beq_self_eq_true, selV]
    refine ifD_of (fun _ => ?_) (fun h => (h hz3).elim)
    refine h8.load rfl ?_
    try simp only [sv_cons, sv_cons1, sc_cons, sc_cons1, asB_bool, ifB_true, ifB_false, un_not, bin_lss, bin_leq, bin_gtr, bin_geq, bin_eql, bin_neq, bin_add, bin_sub, bin_mul, ok_int, ok_bool, ok_slice, ok_str, ok_ptr, ok_map, ok_func, ok_iface, ok_nil, List.all_cons, List.all_nil, Bool.and_true, Bool.true_and, seg, setSeg, List.drop_succ_cons, List.drop_zero, List.take_succ_cons, List.take_zero, List.cons_append, List.nil_append, List.append_nil, List.length_cons, List.length_nil, List.drop_nil, List.size_toArray, Nat.reduceAdd, Nat.reduceLeDiff, Nat.reduceBEq, Nat.zero_add, Nat.le_refl, decide_true, mkV, List.headD_cons, cellsV, w_fldV, w_ext, w_fldP, List.getElem?_toArray, List.getElem?_cons_zero, List.getElem?_cons_succ, beq_self_eq_true, selV]
    rw [wrap_i64 (x := ((r + n : Nat) : Int) + 1) (by unfold i64; omega)]
    refine h8.store rfl fun H2 h8 f2 s2 => ?_
    exact hK _ _ (by omega) ⟨rfl, by simpa [Int.add_assoc] using h8, Fr.trans f1 f2 fun y _ hy => ⟨hy, hy⟩⟩

/-- The marks of what is told so far. -/
def marks (told : List Int) (i : Nat) : List Int := (List.range (2 * told.length)).map fun k : Nat => if (told.take i).contains (k : Int) then (1 : Int) else 0
theorem marks_len {told : List Int} {i : Nat} : (marks told i).length = 2 * told.length := by unfold marks; simp
theorem marks_get {told : List Int} {i k : Nat} (h : k < 2 * told.length) : (marks told i)[k]? = some (if (told.take i).contains (k : Int) then (1 : Int) else 0) := by
  unfold marks; rw [List.getElem?_map, List.getElem?_range h]; rfl
theorem marks_zero {told : List Int} : marks told 0 = List.replicate (2 * told.length) 0 := by
  unfold marks
  apply List.ext_getElem?
  intro j
  rw [List.getElem?_map, List.getElem?_replicate]
  by_cases h : j < 2 * told.length
  · rw [List.getElem?_range h, if_pos h]; simp
  · rw [List.getElem?_eq_none (by simp; omega), if_neg h]; rfl
theorem marks_set {told : List Int} {i k : Nat} (hk : k < 2 * told.length) (hi : told[i]? = some (k : Int)) : (marks told i).set k 1 = marks told (i + 1) := by
  apply List.ext_getElem?
  intro j
  rw [List.getElem?_set, marks_len]
  by_cases hj : j < 2 * told.length
  · rw [marks_get hj, marks_get hj, List.take_add_one, hi]
    by_cases e : k = j
    · subst e; rw [if_pos rfl, if_pos hk]; simp
    · rw [if_neg e]
      congr 1
      have : ((j : Int) == (k : Int)) = false := by simp; omega
      have hne : ¬ (j : Int) = (k : Int) := by omega
      simp only [List.contains_iff_mem, Option.toList_some, List.mem_append, List.mem_singleton, hne, or_false]
  · rw [if_neg (by omega), List.getElem?_eq_none (by rw [marks_len]; omega), List.getElem?_eq_none (by rw [marks_len]; omega)]

theorem c_order_Perm_1 {told : List Int} {v iv : Value} (hv : Sl (rI .i64) H A v told) (ht : TP told) (hn : told.length ≤ 512) (hQ : ∀ u H', Sl (rI .i64) H' (fun y => H.size ≤ y) u (permL told) → G H H' → Q u H') :
    callV Try.prog (fnV fn_order_Perm_1) [iv, v] H Q := by
  apply S_order_Perm_1_of
  unfold S_order_Perm_1
  refine hv.len ?_
  try simp only [sv_cons, sv_cons1, sc_cons, sc_cons1, asB_bool, ifB_true, ifB_false, un_not, bin_lss, bin_leq, bin_gtr, bin_geq, bin_eql, bin_neq, bin_add, bin_sub, bin_mul, ok_int, ok_bool, ok_slice, ok_str, ok_ptr, ok_map, ok_func, ok_iface, ok_nil, List.all_cons, List.all_nil, Bool.and_true, Bool.true_and, seg, setSeg, List.drop_succ_cons, List.drop_zero, List.take_succ_cons, List.take_zero, List.cons_append, List.nil_append, List.append_nil, List.length_cons, List.length_nil, List.drop_nil, List.size_toArray, Nat.reduceAdd, Nat.reduceLeDiff, Nat.reduceBEq, Nat.zero_add, Nat.le_refl, decide_true, mkV, List.headD_cons, cellsV, w_fldV, w_ext, w_fldP, List.getElem?_toArray, List.getElem?_cons_zero, List.getElem?_cons_succ, beq_self_eq_true, selV]
  rw [wrap_i64 (by unfold i64; omega), show 2 * (told.length : Int) = ((2 * told.length : Nat) : Int) by omega]
  refine mk_zero (R := rI .i64) (A := fun _ => False) (x := 0) ⟨rfl, by decide⟩ rfl (by omega) (by omega) (by omega) fun zv H1 hz g1 s1 => newC_bx fun H2 h5 g2 s2 => ?_
  have hz := hz.mono (A' := fun _ => False) fun y hy _ => hy.1
  have hokz := hz.okcv
  refine h5.store hokz fun H3 h5 f3 s3 => hv.len ?_
  have hz := (hz.g g2).upF f3 fun k hk => show k ≠ H1.size by omega
  have g3 : G H H3 := (g1.trans g2).then f3 fun y hy => by omega
  rw [← marks_zero] at hz
  refine loop_up told.length (fun i s H' => G H H' ∧ Ow (rI .i64) H' (H.size + 1) (fun _ => False) zv (marks told i) ∧ Bx H' H1.size [zv] ∧ H'.size = H3.size ∧ s = [[.int .i64 (i : Int)]]) ⟨g3, hz, h5, rfl, rfl⟩ ?_
  rintro i s H4 K hi ⟨g4, hz, h5, s4, rfl⟩ hK
  try simp only [sv_cons, sv_cons1, sc_cons, sc_cons1, asB_bool, ifB_true, ifB_false, un_not, bin_lss, bin_leq, bin_gtr, bin_geq, bin_eql, bin_neq, bin_add, bin_sub, bin_mul, ok_int, ok_bool, ok_slice, ok_str, ok_ptr, ok_map, ok_func, ok_iface, ok_nil, List.all_cons, List.all_nil, Bool.and_true, Bool.true_and, seg, setSeg, List.drop_succ_cons, List.drop_zero, List.take_succ_cons, List.take_zero, List.cons_append, List.nil_append, List.append_nil, List.length_cons, List.length_nil, List.drop_nil, List.size_toArray, Nat.reduceAdd, Nat.reduceLeDiff, Nat.reduceBEq, Nat.zero_add, Nat.le_refl, decide_true, mkV, List.headD_cons, cellsV, w_fldV, w_ext, w_fldP, List.getElem?_toArray, List.getElem?_cons_zero, List.getElem?_cons_succ, beq_self_eq_true, selV]
  refine ifD_of (fun c1 => ?_) (fun c1 => ?_)
  · have hlt : i < told.length := by omega
    have hx := ht.1 _ (List.getElem_mem hlt)
    obtain ⟨k, hk⟩ : ∃ k : Nat, told[i] = (k : Int) := ⟨told[i].toNat, by omega⟩
    have hget : told[i]? = some (k : Int) := by rw [List.getElem?_eq_getElem hlt, hk]
    have hk2 : k < 2 * told.length := by omega
    have hnot : (told.take i).contains (k : Int) = false := by
      rw [Bool.eq_false_iff]
      intro hc
      rw [List.contains_iff_mem] at hc
      obtain ⟨j, hj, he⟩ := List.getElem_of_mem hc
      rw [List.length_take] at hj
      rw [List.getElem_take] at he
      have := List.pairwise_iff_getElem.1 ht.2 j i (by omega) hlt (by omega)
      rw [he, hk] at this
      exact this rfl
    refine (hv.g g4).getI hget fun _ => h5.load rfl ?_
    have hmg := marks_get (told := told) (i := i) hk2
    rw [hnot] at hmg
    simp only [Bool.false_eq_true, if_false] at hmg
    refine (hz.slF (A' := fun _ => True) fun _ _ => trivial).getI hmg fun _ => ?_
    try simp only [sv_cons, sv_cons1, sc_cons, sc_cons1, asB_bool, ifB_true, ifB_false, un_not, bin_lss, bin_leq, bin_gtr, bin_geq, bin_eql, bin_neq, bin_add, bin_sub, bin_mul, ok_int, ok_bool, ok_slice, ok_str, ok_ptr, ok_map, ok_func, ok_iface, ok_nil, List.all_cons, List.all_nil, Bool.and_true, Bool.true_and, seg, setSeg, List.drop_succ_cons, List.drop_zero, List.take_succ_cons, List.take_zero, List.cons_append, List.nil_append, List.append_nil, List.length_cons, List.length_nil, List.drop_nil, List.size_toArray, Nat.reduceAdd, Nat.reduceLeDiff, Nat.reduceBEq, Nat.zero_add, Nat.le_refl, decide_true, mkV, List.headD_cons, cellsV, w_fldV, w_ext, w_fldP, List.getElem?_toArray, List.getElem?_cons_zero, List.getElem?_cons_succ, beq_self_eq_true, selV]
    rw [wrap_i64 (by unfold i64; omega)]
    refine hz.put (x := 1) (vrep_I (by decide)) rfl (fun _ => rfl) (by rw [marks_len]; omega) (fun y hy _ => hy.elim) fun H5 hz' f5 s5 => ?_
    rw [marks_set hk2 hget] at hz'
    try simp only [sv_cons, sv_cons1, sc_cons, sc_cons1, asB_bool, ifB_true, ifB_false, un_not, bin_lss, bin_leq, bin_gtr, bin_geq, bin_eql, bin_neq, bin_add, bin_sub, bin_mul, ok_int, ok_bool, ok_slice, ok_str, ok_ptr, ok_map, ok_func, ok_iface, ok_nil, List.all_cons, List.all_nil, Bool.and_true, Bool.true_and, seg, setSeg, List.drop_succ_cons, List.drop_zero, List.take_succ_cons, List.take_zero, List.cons_append, List.nil_append, List.append_nil, List.length_cons, List.length_nil, List.drop_nil, List.size_toArray, Nat.reduceAdd, Nat.reduceLeDiff, Nat.reduceBEq, Nat.zero_add, Nat.le_refl, decide_true, mkV, List.headD_cons, cellsV, w_fldV, w_ext, w_fldP, List.getElem?_toArray, List.getElem?_cons_zero, List.getElem?_cons_succ, beq_self_eq_true, selV]
    rw [wrap_i64 (by unfold i64; omega)]
    exact hK _ _ hlt ⟨g4.then f5 fun y hy => by omega, hz', h5.up f5 (show H1.size + 1 ≠ H.size + 1 by omega), by omega, by simp⟩
  · have : i = told.length := by omega
    subst this
    refine newC_bx fun H5 h8 g5 s5 => h8.store rfl fun H6 h8 f6 s6 => hv.len ?_
    have hz := (hz.g g5).upF f6 fun k hk => show k ≠ H4.size by omega
    have h5 := (h5.g g5).up f6 (show H1.size ≠ H4.size by omega)
    have g6 : G H H6 := (g4.trans g5).then f6 fun y hy => by omega
    have hrl := restN_len ht
    have hmk : ∀ k, k < 2 * told.length → (marks told told.length)[k]? = some (if told.contains (k : Int) then (1 : Int) else 0) := fun k hk => by rw [marks_get hk, List.take_length]
    refine loop_up told.length (fun t s H' => G H H' ∧ Ow (rI .i64) H' (H.size + 1) (fun _ => False) zv (marks told told.length) ∧ Bx H' H1.size [zv] ∧ (∃ r : Nat, r ≤ 2 * told.length ∧ Bx H' H4.size [.int .i64 (r : Int)] ∧
      (List.range r).filter (fun n : Nat => !told.contains (n : Int)) = (restN told).take t) ∧ ∃ b v, Ow (rI .i64) H' b (fun _ => False) v (weave (told.take t) ((restL told).take t)) ∧ (b = 0 ∨ H6.size < b) ∧ s = [[v], [.int .i64 (t : Int)]])
      ⟨g6, hz, h5, ⟨0, by omega, h8, by simp⟩, 0, _, Ow.nil _ _ _, .inl rfl, rfl⟩ ?_
    rintro t s H7 K7 hti ⟨g7, hz7, h57, ⟨r, hr1, h87, hr2⟩, b, w, hw, hb, rfl⟩ hK7
    try simp only [sv_cons, sv_cons1, sc_cons, sc_cons1, asB_bool, ifB_true, ifB_false, un_not, bin_lss, bin_leq, bin_gtr, bin_geq, bin_eql, bin_neq, bin_add, bin_sub, bin_mul, ok_int, ok_bool, ok_slice, ok_str, ok_ptr, ok_map, ok_func, ok_iface, ok_nil, List.all_cons, List.all_nil, Bool.and_true, Bool.true_and, seg, setSeg, List.drop_succ_cons, List.drop_zero, List.take_succ_cons, List.take_zero, List.cons_append, List.nil_append, List.append_nil, List.length_cons, List.length_nil, List.drop_nil, List.size_toArray, Nat.reduceAdd, Nat.reduceLeDiff, Nat.reduceBEq, Nat.zero_add, Nat.le_refl, decide_true, mkV, List.headD_cons, cellsV, w_fldV, w_ext, w_fldP, List.getElem?_toArray, List.getElem?_cons_zero, List.getElem?_cons_succ, beq_self_eq_true, selV]
    refine ifD_of (fun c2 => ?_) (fun c2 => ?_)
    · have hlt : t < told.length := by omega
      have hget : told[t]? = some told[t] := List.getElem?_eq_getElem hlt
      have hx := ht.1 _ (List.getElem_mem hlt)
      refine (hv.g g7).getI hget fun hwr => ?_
      obtain ⟨m, m1, m2, m3, m4, m5, m6⟩ := next_p (N := 2 * told.length) (p := fun n : Nat => !told.contains (n : Int)) (t := t) _ r rfl hr1 hr2 (by show t < (restN told).length; omega)
      have hm6 : (restL told)[t]? = some (m : Int) := by unfold restL; rw [List.getElem?_map]; show Option.map _ ((restN told)[t]?) = _; unfold restN; rw [m6]; rfl
      refine c_order_Perm_1_1 (m := m) h57 h87 (hz7.slF (A' := fun y => y + 1 = H.size + 1) fun k hk => hk.symm) (fun y hy => by omega) (by omega) m1 (by rw [marks_len]; omega) (by rw [marks_len]; omega)
        (fun k hk1 hk2 => ⟨1, by rw [hmk k (by omega)]; have := m4 k hk1 hk2; simp only [Bool.not_eq_false'] at this; rw [this]; rfl, by omega⟩)
        ⟨0, by rw [hmk m (by omega)]; simp only [Bool.not_eq_true'] at m3; rw [m3]; rfl, by omega⟩ fun H8 h88 f8 => ?_
      have hw8 := hw.upF f8 fun k hk => show k ≠ H4.size by omega
      have hz8 := hz7.upF f8 fun k hk => show k ≠ H4.size by omega
      have h58 := h57.up f8 (show H1.size ≠ H4.size by omega)
      have g8 : G H H8 := g7.then f8 fun y hy => by omega
      have hs7 := g7.size
      have hl7 := hw.lt
      have hl8 := hw8.lt
      have l88 := h88.lt
      refine bld_I (q := .i64) [told[t], (m : Int)] (fun x hx => by
        simp only [List.mem_cons, List.not_mem_nil, or_false] at hx
        rcases hx with rfl | rfl
        · exact hwr
        · exact wrap_i64 (by unfold i64; omega)) rfl fun u H9 hu g9 s9 => ?_
      have hwl : (weave (told.take t) ((restL told).take t)).length = 2 * t := by
        rw [weave_len (by rw [List.length_take, List.length_take, restL_len ht])]
        rw [List.length_take]; omega
      have hws : weave (told.take t) ((restL told).take t) ++ [told[t], (m : Int)] = weave (told.take (t + 1)) ((restL told).take (t + 1)) := by
        rw [List.take_add_one (l := told), List.take_add_one (l := restL told), hget, hm6]
        exact (weave_snoc (by rw [List.length_take, List.length_take, restL_len ht])).symm
      refine (hw8.g g9).app hu.src rfl (by omega) rfl (fun y hy _ => by simp at hy) (by rw [hwl]; simp; omega) (by rw [hwl]; simp; omega) fun w' H10 b' hw' f10 hb' _ => ?_
      rw [hws] at hw'
      have hw' := hw'.mono (A' := fun _ => False) fun y hy _ => by simp at hy
      try simp only [sv_cons, sv_cons1, sc_cons, sc_cons1, asB_bool, ifB_true, ifB_false, un_not, bin_lss, bin_leq, bin_gtr, bin_geq, bin_eql, bin_neq, bin_add, bin_sub, bin_mul, ok_int, ok_bool, ok_slice, ok_str, ok_ptr, ok_map, ok_func, ok_iface, ok_nil, List.all_cons, List.all_nil, Bool.and_true, Bool.true_and, seg, setSeg, List.drop_succ_cons, List.drop_zero, List.take_succ_cons, List.take_zero, List.cons_append, List.nil_append, List.append_nil, List.length_cons, List.length_nil, List.drop_nil, List.size_toArray, Nat.reduceAdd, Nat.reduceLeDiff, Nat.reduceBEq, Nat.zero_add, Nat.le_refl, decide_true, mkV, List.headD_cons, cellsV, w_fldV, w_ext, w_fldP, List.getElem?_toArray, List.getElem?_cons_zero, List.getElem?_cons_succ, beq_self_eq_true, selV]
      rw [wrap_i64 (by unfold i64; omega)]
      refine hK7 _ _ hlt ⟨(g8.trans g9).then f10 fun y hy => by omega, (hz8.g g9).upF f10 fun k hk => by omega, (h58.g g9).up f10 (by omega), ⟨m + 1, by omega, (h88.g g9).up f10 (by omega), m5⟩, b', w', hw', by omega, by simp⟩
    · have : t = told.length := by omega
      subst this
      rw [List.take_length, List.take_of_length_le (by rw [restL_len ht]; exact Nat.le_refl _)] at hw
      exact hQ w H7 (hw.slF fun k hk => by have := g6.size; omega) g7

end Go.Proofs.Ytikebhnnmnlgaaa
