/- The statement 'DevTells': its function says true. -/
import Derived.Test.YtikebhnnmnlgaaaConLaw12
namespace Go.Proofs.Ytikebhnnmnlgaaa
open Go.Ab Go.Md
set_option linter.unusedVariables false
set_option linter.unusedSimpArgs false
set_option maxRecDepth 20000

variable {H : Heap} {Q : Value → Heap → Prop} {A B C : Nat → Prop}

theorem w_booleq (a b : Bool) (k : Value → Prop) : binV .bool .eql (.bool a) (.bool b) k = k (.bool (a == b)) := by simp [binV, binR]

theorem mid_blank {c : Cfg} : Mid (if c.may then blankD c else []) := by
  split
  · rename_i hc
    refine ⟨by unfold blankD; rw [List.length_map]; have := c.all_len; omega, fun x hx => ?_⟩
    unfold blankD at hx
    obtain ⟨l, hl, rfl⟩ := List.mem_map.1 hx
    obtain ⟨_, _, _, _, o1, o2, o3, o4⟩ := Cfg.all_ok hc.1 l hl
    have hm := many_bound o1 o2
    refine ⟨by simp; omega, fun b hb => ?_⟩
    rw [List.mem_replicate] at hb
    rw [hb.2]; simp; omega
  · exact mid_nil

theorem c_DevTells {c : Cfg} {a b : Value} {d o : Dv} (ha : Sl rBys H A a d) (hb : Sl rBys H B b o) (hQ : ∀ H', G H H' → Q (.bool true) H') :
    callV Try.prog (fnV fn_law12_DevTells) [.agg (cCfg c).toArray, .agg #[a], .agg #[b]] H Q := by
  apply S_law12_DevTells_of
  unfold S_law12_DevTells
  have ha := ha.old
  have hb := hb.old
  refine newT_of fun H1 g1 s1 => newT_of fun H2 g2 s2 => newT_of fun H3 g3 s3 => ?_
  have g := (g1.trans g2).trans g3
  refine join_of (fun s H' => G H H' ∧ ∃ b, s = [[.bool b]] ∧ (b = false → Small d ∧ Small o)) (fun K hK => ?_) ?_
  · refine c_ref12_Great (ha.g g) fun b H4 hb1 g4 => ?_
    have g := g.trans g4
    cases b with
    | true => exact hK _ _ ⟨g, true, rfl, fun h => by cases h⟩
    | false => exact c_ref12_Great (hb.g g) fun b2 H5 hb2 g5 => hK _ _ ⟨g.trans g5, b2, rfl, fun h => ⟨hb1 rfl, hb2 h⟩⟩
  rintro s H4 ⟨g, b', rfl, hsm⟩
  cases b' with
  | true => exact hQ _ g
  | false =>
    obtain ⟨hs1, hs2⟩ := hsm rfl
    have hm1 := hs1.mid
    have hm2 := hs2.mid
    refine c_ref12_Twin (ha.g g) hm1 fun own H5 hown => newT_of fun H6 g6 s6 => ?_
    obtain ⟨O0, F0, hdo, hOF⟩ := hown.out
    have hok := hown.okcv
    have gA := (g.trans hown.g).trans g6
    have hown := ((hdo.sl (A := fun _ => True) fun _ _ => trivial).g g6).old
    try simp only [sv_cons, sv_cons1, sc_cons, sc_cons1, asB_bool, ifB_true, ifB_false, un_not, bin_lss, bin_leq, bin_gtr, bin_geq, bin_eql, bin_neq, bin_add, bin_sub, bin_mul, ok_int, ok_bool, ok_slice, ok_str, ok_ptr, ok_map, ok_func, ok_iface, ok_nil, List.all_cons, List.all_nil, Bool.and_true, Bool.true_and, seg, setSeg, List.drop_succ_cons, List.drop_zero, List.take_succ_cons, List.take_zero, List.cons_append, List.nil_append, List.append_nil, List.length_cons, List.length_nil, List.drop_nil, List.size_toArray, Nat.reduceAdd, Nat.reduceLeDiff, Nat.reduceBEq, Nat.zero_add, Nat.le_refl, decide_true, mkV, List.headD_cons, cellsV, w_fldV, w_ext, w_fldP, List.getElem?_toArray, List.getElem?_cons_zero, List.getElem?_cons_succ, beq_self_eq_true, selV, hok]
    refine c_dev_New fun x H7 hx g7 => ?_
    have hok2 := hx.okcv
    try simp only [sv_cons, sv_cons1, sc_cons, sc_cons1, asB_bool, ifB_true, ifB_false, un_not, bin_lss, bin_leq, bin_gtr, bin_geq, bin_eql, bin_neq, bin_add, bin_sub, bin_mul, ok_int, ok_bool, ok_slice, ok_str, ok_ptr, ok_map, ok_func, ok_iface, ok_nil, List.all_cons, List.all_nil, Bool.and_true, Bool.true_and, seg, setSeg, List.drop_succ_cons, List.drop_zero, List.take_succ_cons, List.take_zero, List.cons_append, List.nil_append, List.append_nil, List.length_cons, List.length_nil, List.drop_nil, List.size_toArray, Nat.reduceAdd, Nat.reduceLeDiff, Nat.reduceBEq, Nat.zero_add, Nat.le_refl, decide_true, mkV, List.headD_cons, cellsV, w_fldV, w_ext, w_fldP, List.getElem?_toArray, List.getElem?_cons_zero, List.getElem?_cons_succ, beq_self_eq_true, selV, hok2]
    refine newT_of fun H8 g8 s8 => c_ref12_New fun y H9 hy g9 => ?_
    have hok3 := hy.okcv
    try simp only [sv_cons, sv_cons1, sc_cons, sc_cons1, asB_bool, ifB_true, ifB_false, un_not, bin_lss, bin_leq, bin_gtr, bin_geq, bin_eql, bin_neq, bin_add, bin_sub, bin_mul, ok_int, ok_bool, ok_slice, ok_str, ok_ptr, ok_map, ok_func, ok_iface, ok_nil, List.all_cons, List.all_nil, Bool.and_true, Bool.true_and, seg, setSeg, List.drop_succ_cons, List.drop_zero, List.take_succ_cons, List.take_zero, List.cons_append, List.nil_append, List.append_nil, List.length_cons, List.length_nil, List.drop_nil, List.size_toArray, Nat.reduceAdd, Nat.reduceLeDiff, Nat.reduceBEq, Nat.zero_add, Nat.le_refl, decide_true, mkV, List.headD_cons, cellsV, w_fldV, w_ext, w_fldP, List.getElem?_toArray, List.getElem?_cons_zero, List.getElem?_cons_succ, beq_self_eq_true, selV, hok3]
    refine newT_of fun H10 g10 s10 => ?_
    have g610 := ((g7.trans g8).trans g9).trans g10
    refine c_dev_Twin (hown.g g610) hm1 fun t H11 ht => newT_of fun H12 g12 s12 => ?_
    obtain ⟨O, F, hdt, hOFt⟩ := ht.out
    have hok4 := ht.okcv
    try simp only [sv_cons, sv_cons1, sc_cons, sc_cons1, asB_bool, ifB_true, ifB_false, un_not, bin_lss, bin_leq, bin_gtr, bin_geq, bin_eql, bin_neq, bin_add, bin_sub, bin_mul, ok_int, ok_bool, ok_slice, ok_str, ok_ptr, ok_map, ok_func, ok_iface, ok_nil, List.all_cons, List.all_nil, Bool.and_true, Bool.true_and, seg, setSeg, List.drop_succ_cons, List.drop_zero, List.take_succ_cons, List.take_zero, List.cons_append, List.nil_append, List.append_nil, List.length_cons, List.length_nil, List.drop_nil, List.size_toArray, Nat.reduceAdd, Nat.reduceLeDiff, Nat.reduceBEq, Nat.zero_add, Nat.le_refl, decide_true, mkV, List.headD_cons, cellsV, w_fldV, w_ext, w_fldP, List.getElem?_toArray, List.getElem?_cons_zero, List.getElem?_cons_succ, beq_self_eq_true, selV, hok4]
    have g1012 := ht.g.trans g12
    have gB := (gA.trans g610).trans g1012
    have hmb := mid_blank (c := c)
    refine join_of (fun s H' => G H12 H' ∧ s = [[.bool true]]) (fun K hK => ?_) ?_
    · refine c_ref12_Same (hx.g (((g8.trans g9).trans g10).trans g1012)) (hy.g (g10.trans g1012)) (by have := hmb.1; omega) (fun x hx => by have := (hmb.2 x hx).1; omega) fun H13 g13 => ?_
      rw [decide_eq_true rfl]
      try simp only [sv_cons, sv_cons1, sc_cons, sc_cons1, asB_bool, ifB_true, ifB_false, un_not, bin_lss, bin_leq, bin_gtr, bin_geq, bin_eql, bin_neq, bin_add, bin_sub, bin_mul, ok_int, ok_bool, ok_slice, ok_str, ok_ptr, ok_map, ok_func, ok_iface, ok_nil, List.all_cons, List.all_nil, Bool.and_true, Bool.true_and, seg, setSeg, List.drop_succ_cons, List.drop_zero, List.take_succ_cons, List.take_zero, List.cons_append, List.nil_append, List.append_nil, List.length_cons, List.length_nil, List.drop_nil, List.size_toArray, Nat.reduceAdd, Nat.reduceLeDiff, Nat.reduceBEq, Nat.zero_add, Nat.le_refl, decide_true, mkV, List.headD_cons, cellsV, w_fldV, w_ext, w_fldP, List.getElem?_toArray, List.getElem?_cons_zero, List.getElem?_cons_succ, beq_self_eq_true, selV]
      refine c_dev_Check (hown.g ((g610.trans g1012).trans g13)) hm1 fun H14 g14 => ?_
      refine c_ref12_Check (ha.g ((gB.trans g13).trans g14)) hm1 fun H15 g15 => ?_
      try simp only [sv_cons, sv_cons1, sc_cons, sc_cons1, asB_bool, ifB_true, ifB_false, un_not, bin_lss, bin_leq, bin_gtr, bin_geq, bin_eql, bin_neq, bin_add, bin_sub, bin_mul, ok_int, ok_bool, ok_slice, ok_str, ok_ptr, ok_map, ok_func, ok_iface, ok_nil, List.all_cons, List.all_nil, Bool.and_true, Bool.true_and, seg, setSeg, List.drop_succ_cons, List.drop_zero, List.take_succ_cons, List.take_zero, List.cons_append, List.nil_append, List.append_nil, List.length_cons, List.length_nil, List.drop_nil, List.size_toArray, Nat.reduceAdd, Nat.reduceLeDiff, Nat.reduceBEq, Nat.zero_add, Nat.le_refl, decide_true, mkV, List.headD_cons, cellsV, w_fldV, w_ext, w_fldP, List.getElem?_toArray, List.getElem?_cons_zero, List.getElem?_cons_succ, beq_self_eq_true, selV]
      exact hK _ _ ⟨(g13.trans g14).trans g15, rfl⟩
    rintro s H13 ⟨g13, rfl⟩
    refine join_of (fun s H' => G H13 H' ∧ s = [[.bool true]]) (fun K hK => ?_) ?_
    · refine c_dev_Same (hown.g ((g610.trans g1012).trans g13)) (hb.g (gB.trans g13)) hm1 fun H14 g14 => ?_
      refine c_ref12_Same (ha.g ((gB.trans g13).trans g14)) (hb.g ((gB.trans g13).trans g14)) (by have := hm1.1; omega) (fun x hx => by have := (hm1.2 x hx).1; omega) fun H15 g15 => ?_
      rw [w_booleq]
      try simp only [sv_cons, sv_cons1, sc_cons, sc_cons1, asB_bool, ifB_true, ifB_false, un_not, bin_lss, bin_leq, bin_gtr, bin_geq, bin_eql, bin_neq, bin_add, bin_sub, bin_mul, ok_int, ok_bool, ok_slice, ok_str, ok_ptr, ok_map, ok_func, ok_iface, ok_nil, List.all_cons, List.all_nil, Bool.and_true, Bool.true_and, seg, setSeg, List.drop_succ_cons, List.drop_zero, List.take_succ_cons, List.take_zero, List.cons_append, List.nil_append, List.append_nil, List.length_cons, List.length_nil, List.drop_nil, List.size_toArray, Nat.reduceAdd, Nat.reduceLeDiff, Nat.reduceBEq, Nat.zero_add, Nat.le_refl, decide_true, mkV, List.headD_cons, cellsV, w_fldV, w_ext, w_fldP, List.getElem?_toArray, List.getElem?_cons_zero, List.getElem?_cons_succ, beq_self_eq_true, selV]
      have g1315 := g14.trans g15
      refine c_dev_Same (hown.g (((g610.trans g1012).trans g13).trans g1315)) (ha.g ((gB.trans g13).trans g1315)) hm1 fun H16 g16 => ?_
      rw [decide_eq_true rfl]
      try simp only [sv_cons, sv_cons1, sc_cons, sc_cons1, asB_bool, ifB_true, ifB_false, un_not, bin_lss, bin_leq, bin_gtr, bin_geq, bin_eql, bin_neq, bin_add, bin_sub, bin_mul, ok_int, ok_bool, ok_slice, ok_str, ok_ptr, ok_map, ok_func, ok_iface, ok_nil, List.all_cons, List.all_nil, Bool.and_true, Bool.true_and, seg, setSeg, List.drop_succ_cons, List.drop_zero, List.take_succ_cons, List.take_zero, List.cons_append, List.nil_append, List.append_nil, List.length_cons, List.length_nil, List.drop_nil, List.size_toArray, Nat.reduceAdd, Nat.reduceLeDiff, Nat.reduceBEq, Nat.zero_add, Nat.le_refl, decide_true, mkV, List.headD_cons, cellsV, w_fldV, w_ext, w_fldP, List.getElem?_toArray, List.getElem?_cons_zero, List.getElem?_cons_succ, beq_self_eq_true, selV]
      have g1316 := g1315.trans g16
      refine c_ref12_Same (((hdt.sl (A := fun _ => True) fun _ _ => trivial).g g12).g (g13.trans g1316)) (ha.g ((gB.trans g13).trans g1316)) (by have := hm1.1; omega) (fun x hx => by have := (hm1.2 x hx).1; omega) fun H17 g17 => ?_
      rw [decide_eq_true rfl]
      exact hK _ _ ⟨g1316.trans g17, rfl⟩
    rintro s H14 ⟨g14, rfl⟩
    refine c_law12_spoil ((hdt.g g12).g (g13.trans g14)) hm1 fun H15 f15 => ?_
    have hs6 := g610.size
    have k0 : Fr (fun y => y < H6.size) H6 H15 := Fr.trans (((g610.trans g1012).trans g13).trans g14) f15 fun y _ (hy : y < H6.size) => ⟨trivial, fun hF => by have := (hOFt y (.inr hF)).1; omega⟩
    have hsA := gA.size
    have k1 : Fr (fun y => y < H.size) H H15 := Fr.trans gA k0 fun y _ (hy : y < H.size) => ⟨trivial, show y < H6.size by omega⟩
    have gz : G H H15 := k1.g fun y hy => hy
    refine join_of (fun s H' => G H15 H' ∧ s = [[.bool true]]) (fun K hK => ?_) ?_
    · try simp only [sv_cons, sv_cons1, sc_cons, sc_cons1, asB_bool, ifB_true, ifB_false, un_not, bin_lss, bin_leq, bin_gtr, bin_geq, bin_eql, bin_neq, bin_add, bin_sub, bin_mul, ok_int, ok_bool, ok_slice, ok_str, ok_ptr, ok_map, ok_func, ok_iface, ok_nil, List.all_cons, List.all_nil, Bool.and_true, Bool.true_and, seg, setSeg, List.drop_succ_cons, List.drop_zero, List.take_succ_cons, List.take_zero, List.cons_append, List.nil_append, List.append_nil, List.length_cons, List.length_nil, List.drop_nil, List.size_toArray, Nat.reduceAdd, Nat.reduceLeDiff, Nat.reduceBEq, Nat.zero_add, Nat.le_refl, decide_true, mkV, List.headD_cons, cellsV, w_fldV, w_ext, w_fldP, List.getElem?_toArray, List.getElem?_cons_zero, List.getElem?_cons_succ, beq_self_eq_true, selV]
      refine c_ref12_Same (hown.up k0 fun y hy _ => ⟨hy, hy⟩) (ha.up k1 fun y hy _ => ⟨hy, hy⟩) (by have := hm1.1; omega) (fun x hx => by have := (hm1.2 x hx).1; omega) fun H16 g16 => ?_
      rw [decide_eq_true rfl]
      exact hK _ _ ⟨g16, rfl⟩
    rintro s H16 ⟨g16, rfl⟩
    exact hQ _ (gz.trans g16)

end Go.Proofs.Ytikebhnnmnlgaaa
