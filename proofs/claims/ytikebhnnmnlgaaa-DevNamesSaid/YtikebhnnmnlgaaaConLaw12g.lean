/- The statement 'DevNames': its function says true. -/
import Derived.Test.YtikebhnnmnlgaaaConLaw12f
namespace Go.Proofs.Ytikebhnnmnlgaaa
open Go.Ab Go.Md
set_option linter.unusedVariables false
set_option linter.unusedSimpArgs false
set_option maxRecDepth 20000

variable {H : Heap} {Q : Value → Heap → Prop} {A B C : Nat → Prop}

def c0 : Cfg := ⟨0, 0, 0, 0, 0, 0, 0, 0, 0⟩
def tail8 : By := List.replicate 103 1

theorem n8_1 : askE c8 d8 3 [] = 2 := by decide +kernel
theorem n8_2 : askE c8 d8 2 [4] = 2 := by decide +kernel
theorem n8_3 : wrE c8 d8 2 [1] [tail8] = 2 := by decide +kernel
theorem n8_4 : repE c8 d8 [⟨3, 0, 1, List.replicate 96 0⟩] = 2 := by decide +kernel
theorem n8_5 : c0.err = 8 := by decide +kernel
theorem n8_6 : may c8 [] = false := by decide +kernel

structure An (H0 : Heap) (v : Value) (a b c : Option Value) (H : Heap) : Prop where
  g : G H0 H
  dv : Sl rBys H (fun _ => True) v d8
  ha : ∀ u, a = some u → Sl (rI .i64) H (fun _ => True) u [1]
  hb : ∀ u, b = some u → Sl rU8 H (fun _ => True) u tail8
  hc : ∀ u, c = some u → Sl rBy H (fun _ => True) u [tail8]

section
variable {H0 : Heap} {v : Value} {a b c : Option Value}
theorem An.up {H' : Heap} (h : An H0 v a b c H) (g : G H H') : An H0 v a b c H' := ⟨h.g.trans g, h.dv.g g, fun u e => (h.ha u e).g g, fun u e => (h.hb u e).g g, fun u e => (h.hc u e).g g⟩
theorem An.new {k : Heap → Prop} (h : An H0 v a b c H) (hk : ∀ H', An H0 v a b c H' → k H') : newT H k := newT_of fun H' g _ => hk H' (h.up g)
theorem An.eight (h : An H0 v a b c H) (hk : ∀ H', An H0 v a b c H' → Q (.agg (cCfg c8).toArray) H') : callV Try.prog (fnV fn_law12_eight) [] H Q := c_law12_eight fun H' g => hk H' (h.up g)
theorem An.ints {e : Nat} {z : List Value} (h : An H0 v none b c H) (hk : ∀ u H', An H0 v (some u) b c H' → Q u H') : bldS e 1 false z 1 [(0, .int .i64 1)] H Q :=
  bld_I (q := .i64) [1] (by decide) rfl fun u H' hu g _ => hk u H' ⟨h.g.trans g, h.dv.g g, fun w e => by cases e; exact hu.slF fun _ _ => trivial, fun u e => (h.hb u e).g g, fun u e => (h.hc u e).g g⟩
theorem An.text {k : Value → Heap → Prop} (h : An H0 v a none c H) (hk : ∀ u H', An H0 v a (some u) c H' → k u H') : callV Try.prog (fnV fn_law12_text) [.int .u8 1] H fun t H => slS 1 t (some (.int .i64 1)) none none fun u => k u H :=
  c_law12_text (c := 1) rfl fun u H' hu g => by
    have hs : Sl rU8 H' (fun _ => True) u (txt 1) := hu.slF fun _ _ => trivial
    refine hs.cut (lo := 1) (hi := 104) rfl (by decide) (by decide) (by decide) optI_some optI_none fun w hw => hk w H' ⟨h.g.trans g, h.dv.g g, fun u e => (h.ha u e).g g, fun w' e => by cases e; exact hw, fun u e => (h.hc u e).g g⟩
theorem An.one {x : Value} {e : Nat} {z : List Value} (h : An H0 v a (some x) none H) (hk : ∀ u H', An H0 v a (some x) (some u) H' → Q u H') : bldS e 1 false z 1 [(0, x)] H Q :=
  bld_all (R := rBy) (.cons (vrep_S (h.hb x rfl)) .nil) rfl (fun _ => rfl) rfl fun u H' hu g _ =>
    hk u H' ⟨h.g.trans g, h.dv.g g, fun u e => (h.ha u e).g g, fun u e => (h.hb u e).g g, fun w e => by cases e; exact hu.sl (fun _ _ _ => trivial) fun _ _ => trivial⟩
theorem An.write {x y w : Value} (h : An H0 v (some x) (some y) (some w) H) (hk : ∀ p l H', okc p = true → An H0 v (some x) (some y) (some w) H' → Q (tup3 (.agg #[p]) l (.int .i64 2)) H') :
    callV Try.prog (fnV fn_dev_Write) [.agg (cCfg c8).toArray, .agg #[v], .int .i64 2, x, w] H Q :=
  c_dev_Write h.dv (h.ha x rfl) (h.hc w rfl) d8_mid (by decide) (by decide) (by intro x hx; rw [List.mem_singleton] at hx; rw [hx]; simp [tail8]) fun p l O F b H' hw g => by
    rw [n8_3] at hw ⊢
    exact hk p l H' hw.dv.okcv (h.up g)
end

structure Ar (H0 : Heap) (v : Value) (a b : Option Value) (H : Heap) : Prop where
  g : G H0 H
  dv : Sl rBys H (fun _ => True) v d8
  ha : ∀ u, a = some u → Sl rU8 H (fun _ => True) u (List.replicate 96 0)
  hb : ∀ u, b = some u → Sl rSee H (fun _ => True) u [⟨3, 0, 1, List.replicate 96 0⟩]

section
variable {H0 : Heap} {v : Value} {a b : Option Value}
theorem Ar.up {H' : Heap} (h : Ar H0 v a b H) (g : G H H') : Ar H0 v a b H' := ⟨h.g.trans g, h.dv.g g, fun u e => (h.ha u e).g g, fun u e => (h.hb u e).g g⟩
theorem Ar.new {k : Heap → Prop} (h : Ar H0 v a b H) (hk : ∀ H', Ar H0 v a b H' → k H') : newT H k := newT_of fun H' g _ => hk H' (h.up g)
theorem Ar.eight (h : Ar H0 v a b H) (hk : ∀ H', Ar H0 v a b H' → Q (.agg (cCfg c8).toArray) H') : callV Try.prog (fnV fn_law12_eight) [] H Q := c_law12_eight fun H' g => hk H' (h.up g)
theorem Ar.mk' {e : Nat} {z : List Value} (h : Ar H0 v none b H) (hz : z = [.int .u8 0]) (hk : ∀ u H', okc u = true → Ar H0 v (some u) b H' → Q u H') : mkS e 1 1 z (.int .i64 96) (.int .i64 96) H Q := by
  subst hz
  exact mk_zero (R := rU8) (A := fun _ => False) (m := 96) (x := 0) ⟨rfl, trivial⟩ rfl (by omega) (by omega) (by omega) fun u H' hu g _ => hk u H' hu.okcv
    ⟨h.g.trans g, h.dv.g g, fun w e => by cases e; exact hu.sl (fun _ _ _ => trivial) fun _ _ => trivial, fun u e => (h.hb u e).g g⟩
theorem Ar.one {x : Value} {e : Nat} {z : List Value} (h : Ar H0 v (some x) none H) (hk : ∀ u H', Ar H0 v (some x) (some u) H' → Q u H') : bldS e 4 true z 1 [(0, .agg #[.int .u8 3, .int .i64 0, .int .i64 1, x])] H Q :=
  bld_all (R := rSee) (A := fun _ => True) (xs := [⟨3, 0, 1, List.replicate 96 0⟩]) (.cons ⟨[.int .u8 3, .int .i64 0, .int .i64 1, x], rfl, x, rfl, h.ha x rfl⟩ .nil) rfl (fun h => by cases h) rfl fun u H' hu g _ =>
    hk u H' ⟨h.g.trans g, h.dv.g g, fun u e => (h.ha u e).g g, fun w e => by cases e; exact hu.sl (fun _ _ _ => trivial) fun _ _ => trivial⟩
theorem Ar.rep {x w : Value} (h : Ar H0 v (some x) (some w) H) (hk : ∀ p H', okc p = true → Ar H0 v (some x) (some w) H' → Q (tup2 (.agg #[p]) (.int .i64 2)) H') :
    callV Try.prog (fnV fn_dev_Replay) [.agg (cCfg c8).toArray, .agg #[v], w] H Q :=
  c_dev_Replay h.dv (h.hb w rfl) d8_mid ⟨by decide, fun s hs => by rw [List.mem_singleton] at hs; rw [hs]; unfold i64; decide⟩ fun p O F H' hw g => by
    rw [n8_4] at hw ⊢
    exact hk p H' hw.dv.okcv (h.up g)
end

theorem c_DevNames (hQ : ∀ H', G H H' → Q (.bool true) H') : callV Try.prog (fnV fn_law12_DevNames) [] H Q := by
  apply S_law12_DevNames_of
  unfold S_law12_DevNames
  refine c_law12_eight fun H1 g1 => ?_
  refine c_dev_New (c := c8) fun v H2 hv g2 => ?_
  rw [d8_eq] at hv
  try simp only [sv_cons, sv_cons1, sc_cons, sc_cons1, asB_bool, ifB_true, ifB_false, un_not, bin_lss, bin_leq, bin_gtr, bin_geq, bin_eql, bin_neq, bin_add, bin_sub, bin_mul, ok_int, ok_bool, ok_slice, ok_str, ok_ptr, ok_map, ok_func, ok_iface, ok_nil, List.all_cons, List.all_nil, Bool.and_true, Bool.true_and, seg, setSeg, List.drop_succ_cons, List.drop_zero, List.take_succ_cons, List.take_zero, List.cons_append, List.nil_append, List.append_nil, List.length_cons, List.length_nil, List.drop_nil, List.size_toArray, Nat.reduceAdd, Nat.reduceLeDiff, Nat.reduceBEq, Nat.zero_add, Nat.le_refl, decide_true, mkV, List.headD_cons, cellsV, w_fldV, w_ext, w_fldP, List.getElem?_toArray, List.getElem?_cons_zero, List.getElem?_cons_succ, beq_self_eq_true, selV]
  refine newT_of fun H3 g3 _ => ?_
  have g := (g1.trans g2).trans g3
  have hv := (hv.g g3).mono (A' := fun _ => True) fun _ _ _ => trivial
  have hok := hv.okcv
  try simp only [sv_cons, sv_cons1, sc_cons, sc_cons1, asB_bool, ifB_true, ifB_false, un_not, bin_lss, bin_leq, bin_gtr, bin_geq, bin_eql, bin_neq, bin_add, bin_sub, bin_mul, ok_int, ok_bool, ok_slice, ok_str, ok_ptr, ok_map, ok_func, ok_iface, ok_nil, List.all_cons, List.all_nil, Bool.and_true, Bool.true_and, seg, setSeg, List.drop_succ_cons, List.drop_zero, List.take_succ_cons, List.take_zero, List.cons_append, List.nil_append, List.append_nil, List.length_cons, List.length_nil, List.drop_nil, List.size_toArray, Nat.reduceAdd, Nat.reduceLeDiff, Nat.reduceBEq, Nat.zero_add, Nat.le_refl, decide_true, mkV, List.headD_cons, cellsV, w_fldV, w_ext, w_fldP, List.getElem?_toArray, List.getElem?_cons_zero, List.getElem?_cons_succ, beq_self_eq_true, selV, hok]
  refine c_law12_eight fun H4 g4 => ?_
  refine c_dev_Read (c := c8) (hv.g g4) (Sl.nil (rI .i64) H4 (fun _ => True) none 0) d8_mid (by decide) fun q1 m1 b1 b2 F1 ws1 H5 hr1 g5 => ?_
  rw [n8_1]
  clear hr1
  have g := (g.trans g4).trans g5
  have hv := hv.g (g4.trans g5)
  try simp only [sv_cons, sv_cons1, sc_cons, sc_cons1, asB_bool, ifB_true, ifB_false, un_not, bin_lss, bin_leq, bin_gtr, bin_geq, bin_eql, bin_neq, bin_add, bin_sub, bin_mul, ok_int, ok_bool, ok_slice, ok_str, ok_ptr, ok_map, ok_func, ok_iface, ok_nil, List.all_cons, List.all_nil, Bool.and_true, Bool.true_and, seg, setSeg, List.drop_succ_cons, List.drop_zero, List.take_succ_cons, List.take_zero, List.cons_append, List.nil_append, List.append_nil, List.length_cons, List.length_nil, List.drop_nil, List.size_toArray, Nat.reduceAdd, Nat.reduceLeDiff, Nat.reduceBEq, Nat.zero_add, Nat.le_refl, decide_true, mkV, List.headD_cons, cellsV, w_fldV, w_ext, w_fldP, List.getElem?_toArray, List.getElem?_cons_zero, List.getElem?_cons_succ, beq_self_eq_true, selV]
  refine join_of (fun s H' => G H5 H' ∧ s = [[.int .i64 2]]) (fun K hK => ?_) ?_
  · have rd : ∀ u H', G H5 H' → Sl (rI .i64) H' (fun _ => True) u [4] → ∀ k : Value → Heap → Prop, (∀ q m H'', G H5 H'' → k (tup3 q m (.int .i64 2)) H'') → callV Try.prog (fnV fn_dev_Read) [.agg (cCfg c8).toArray, .agg #[v], .int .i64 2, u] H' k := fun u H' g hu k hk =>
      c_dev_Read (c := c8) (hv.g g) hu d8_mid (by decide) fun q m b1 b2 F ws H'' hr g' => by rw [n8_2]; exact hk q m H'' (g.trans g')
    constructor
    · refine c_law12_eight fun H6 g6 => bld_I (q := .i64) [4] (by decide) rfl fun u H7 hu g7 _ => ?_
      exact rd u H7 (g6.trans g7) (hu.slF fun _ _ => trivial) _ fun q m H8 g8 => hK _ _ ⟨g8, rfl⟩
    · refine bld_I (q := .i64) [4] (by decide) rfl fun u H6 hu g6 _ => c_law12_eight fun H7 g7 => ?_
      exact rd u H7 (g6.trans g7) ((hu.slF fun _ _ => trivial).g g7) _ fun q m H8 g8 => hK _ _ ⟨g8, rfl⟩
  rintro s H6 ⟨g6, rfl⟩
  have g := g.trans g6
  have hv := hv.g g6
  refine join_of (fun s H' => G H6 H' ∧ s = [[.int .i64 2]]) (fun K hK => ?_) ?_
  · have h : An H6 v none none none H6 := ⟨G.fr (Fr.refl _ _), hv, (fun u e => by cases e), (fun u e => by cases e), (fun u e => by cases e)⟩
    have fin : ∀ (a b c : Option Value) H', An H6 v a b c H' → K [[.int .i64 2]] H' := fun a b c H' h => hK _ _ ⟨h.g, rfl⟩
    clear hK
    try simp only [sv_cons, sv_cons1, sc_cons, sc_cons1, asB_bool, ifB_true, ifB_false, un_not, bin_lss, bin_leq, bin_gtr, bin_geq, bin_eql, bin_neq, bin_add, bin_sub, bin_mul, ok_int, ok_bool, ok_slice, ok_str, ok_ptr, ok_map, ok_func, ok_iface, ok_nil, List.all_cons, List.all_nil, Bool.and_true, Bool.true_and, seg, setSeg, List.drop_succ_cons, List.drop_zero, List.take_succ_cons, List.take_zero, List.cons_append, List.nil_append, List.append_nil, List.length_cons, List.length_nil, List.drop_nil, List.size_toArray, Nat.reduceAdd, Nat.reduceLeDiff, Nat.reduceBEq, Nat.zero_add, Nat.le_refl, decide_true, mkV, List.headD_cons, cellsV, w_fldV, w_ext, w_fldP, List.getElem?_toArray, List.getElem?_cons_zero, List.getElem?_cons_succ, beq_self_eq_true, selV]
    repeat' first
      | with_reducible exact fin _ _ _ _ (by assumption)
      | with_reducible refine An.new (by assumption) fun H' h => ?_
      | with_reducible refine An.eight (by assumption) fun H' h => ?_
      | with_reducible refine An.ints (by assumption) fun u H' h => ?_
      | with_reducible refine An.text (by assumption) fun u H' h => ?_
      | with_reducible refine An.one (by assumption) fun u H' h => ?_
      | (with_reducible refine An.write (by assumption) fun p l H' hp h => ?_
         try simp only [sv_cons, sv_cons1, sc_cons, sc_cons1, asB_bool, ifB_true, ifB_false, un_not, bin_lss, bin_leq, bin_gtr, bin_geq, bin_eql, bin_neq, bin_add, bin_sub, bin_mul, ok_int, ok_bool, ok_slice, ok_str, ok_ptr, ok_map, ok_func, ok_iface, ok_nil, List.all_cons, List.all_nil, Bool.and_true, Bool.true_and, seg, setSeg, List.drop_succ_cons, List.drop_zero, List.take_succ_cons, List.take_zero, List.cons_append, List.nil_append, List.append_nil, List.length_cons, List.length_nil, List.drop_nil, List.size_toArray, Nat.reduceAdd, Nat.reduceLeDiff, Nat.reduceBEq, Nat.zero_add, Nat.le_refl, decide_true, mkV, List.headD_cons, cellsV, w_fldV, w_ext, w_fldP, List.getElem?_toArray, List.getElem?_cons_zero, List.getElem?_cons_succ, beq_self_eq_true, selV, hp])
      | with_reducible refine And.intro ?_ ?_
  rintro s H7 ⟨g7, rfl⟩
  have g := g.trans g7
  have hv := hv.g g7
  refine join_of (fun s H' => G H7 H' ∧ s = [[.int .i64 2]]) (fun K hK => ?_) ?_
  · have h : Ar H7 v none none H7 := ⟨G.fr (Fr.refl _ _), hv, (fun u e => by cases e), (fun u e => by cases e)⟩
    have fin : ∀ (a b : Option Value) H', Ar H7 v a b H' → K [[.int .i64 2]] H' := fun a b H' h => hK _ _ ⟨h.g, rfl⟩
    clear hK
    try simp only [sv_cons, sv_cons1, sc_cons, sc_cons1, asB_bool, ifB_true, ifB_false, un_not, bin_lss, bin_leq, bin_gtr, bin_geq, bin_eql, bin_neq, bin_add, bin_sub, bin_mul, ok_int, ok_bool, ok_slice, ok_str, ok_ptr, ok_map, ok_func, ok_iface, ok_nil, List.all_cons, List.all_nil, Bool.and_true, Bool.true_and, seg, setSeg, List.drop_succ_cons, List.drop_zero, List.take_succ_cons, List.take_zero, List.cons_append, List.nil_append, List.append_nil, List.length_cons, List.length_nil, List.drop_nil, List.size_toArray, Nat.reduceAdd, Nat.reduceLeDiff, Nat.reduceBEq, Nat.zero_add, Nat.le_refl, decide_true, mkV, List.headD_cons, cellsV, w_fldV, w_ext, w_fldP, List.getElem?_toArray, List.getElem?_cons_zero, List.getElem?_cons_succ, beq_self_eq_true, selV]
    repeat' first
      | with_reducible exact fin _ _ _ (by assumption)
      | with_reducible refine Ar.new (by assumption) fun H' h => ?_
      | with_reducible refine Ar.eight (by assumption) fun H' h => ?_
      | (refine Ar.mk' (by assumption) rfl fun u H' hu h => ?_
         try simp only [sv_cons, sv_cons1, sc_cons, sc_cons1, asB_bool, ifB_true, ifB_false, un_not, bin_lss, bin_leq, bin_gtr, bin_geq, bin_eql, bin_neq, bin_add, bin_sub, bin_mul, ok_int, ok_bool, ok_slice, ok_str, ok_ptr, ok_map, ok_func, ok_iface, ok_nil, List.all_cons, List.all_nil, Bool.and_true, Bool.true_and, seg, setSeg, List.drop_succ_cons, List.drop_zero, List.take_succ_cons, List.take_zero, List.cons_append, List.nil_append, List.append_nil, List.length_cons, List.length_nil, List.drop_nil, List.size_toArray, Nat.reduceAdd, Nat.reduceLeDiff, Nat.reduceBEq, Nat.zero_add, Nat.le_refl, decide_true, mkV, List.headD_cons, cellsV, w_fldV, w_ext, w_fldP, List.getElem?_toArray, List.getElem?_cons_zero, List.getElem?_cons_succ, beq_self_eq_true, selV, hu])
      | with_reducible refine Ar.one (by assumption) fun u H' h => ?_
      | (with_reducible refine Ar.rep (by assumption) fun p H' hp h => ?_
         try simp only [sv_cons, sv_cons1, sc_cons, sc_cons1, asB_bool, ifB_true, ifB_false, un_not, bin_lss, bin_leq, bin_gtr, bin_geq, bin_eql, bin_neq, bin_add, bin_sub, bin_mul, ok_int, ok_bool, ok_slice, ok_str, ok_ptr, ok_map, ok_func, ok_iface, ok_nil, List.all_cons, List.all_nil, Bool.and_true, Bool.true_and, seg, setSeg, List.drop_succ_cons, List.drop_zero, List.take_succ_cons, List.take_zero, List.cons_append, List.nil_append, List.append_nil, List.length_cons, List.length_nil, List.drop_nil, List.size_toArray, Nat.reduceAdd, Nat.reduceLeDiff, Nat.reduceBEq, Nat.zero_add, Nat.le_refl, decide_true, mkV, List.headD_cons, cellsV, w_fldV, w_ext, w_fldP, List.getElem?_toArray, List.getElem?_cons_zero, List.getElem?_cons_succ, beq_self_eq_true, selV, hp])
      | with_reducible refine And.intro ?_ ?_
  rintro s H8 ⟨g8, rfl⟩
  have g := g.trans g8
  refine c_dev_New (c := c0) fun v0 H9 hv0 g9 => ?_
  rw [n8_5]
  have hok0 := hv0.okcv
  try simp only [sv_cons, sv_cons1, sc_cons, sc_cons1, asB_bool, ifB_true, ifB_false, un_not, bin_lss, bin_leq, bin_gtr, bin_geq, bin_eql, bin_neq, bin_add, bin_sub, bin_mul, ok_int, ok_bool, ok_slice, ok_str, ok_ptr, ok_map, ok_func, ok_iface, ok_nil, List.all_cons, List.all_nil, Bool.and_true, Bool.true_and, seg, setSeg, List.drop_succ_cons, List.drop_zero, List.take_succ_cons, List.take_zero, List.cons_append, List.nil_append, List.append_nil, List.length_cons, List.length_nil, List.drop_nil, List.size_toArray, Nat.reduceAdd, Nat.reduceLeDiff, Nat.reduceBEq, Nat.zero_add, Nat.le_refl, decide_true, mkV, List.headD_cons, cellsV, w_fldV, w_ext, w_fldP, List.getElem?_toArray, List.getElem?_cons_zero, List.getElem?_cons_succ, beq_self_eq_true, selV, hok0]
  refine newT_of fun H10 g10 _ => ?_
  refine join_of (fun s H' => G H10 H' ∧ s = [[.bool true]]) (fun K hK => ?_) ?_
  · refine c_law12_alive fun H11 g11 => ?_
    refine c_law12_eight fun H12 g12 => ?_
    refine c_dev_Check (c := c8) (Sl.nil rBys H12 (fun _ => True) none 0) mid_nil fun H13 g13 => ?_
    rw [n8_6]
    exact w_eqI rfl (hK _ _ ⟨(g11.trans g12).trans g13, rfl⟩)
  rintro s H11 ⟨g11, rfl⟩
  exact hQ _ (((g.trans g9).trans g10).trans g11)

end Go.Proofs.Ytikebhnnmnlgaaa
