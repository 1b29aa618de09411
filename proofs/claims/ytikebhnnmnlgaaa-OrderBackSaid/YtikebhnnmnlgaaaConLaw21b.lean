/- The chapter's examples; the statement 'OrderBack': its function says true. -/
import Derived.Test.YtikebhnnmnlgaaaConLaw21
import Derived.Test.YtikebhnnmnlgaaaConOrd6
namespace Go.Proofs.Ytikebhnnmnlgaaa
open Go.Ab Go.Md
set_option linter.unusedVariables false
set_option linter.unusedSimpArgs false
set_option maxRecDepth 20000

variable {H : Heap} {Q : Value → Heap → Prop} {A B C : Nat → Prop}

def cO : Cfg := ⟨2, 1, 2, 1, 2, 1, 1, 1, 2⟩
def uT : List Unt := [⟨1, 1, 0, []⟩, ⟨0, 0, 0, []⟩, ⟨2, 1, 0, [1]⟩]
theorem uT_err : unitsE cO uT = 0 := by decide +kernel
theorem uT_cells : cellsL cO uT = [[1, 3, 0]] := by decide +kernel
theorem uT_perms : permsL cO uT = [[1, 2, 3, 4, 0, 5]] := by decide +kernel
theorem uT_ord : ordE [1, 2, 3, 4, 0, 5] [97, 98, 99, 100, 101, 102] = 0 := by decide +kernel
theorem uT_apply : applyM [1, 2, 3, 4, 0, 5] [97, 98, 99, 100, 101, 102] = [98, 99, 100, 101, 97, 102] := by decide +kernel

theorem c_law21_one (hQ : ∀ H', G H H' → Q (.agg (cCfg cO).toArray) H') : callV Try.prog (fnV fn_law21_one) [] H Q := by
  apply S_law21_one_of
  unfold S_law21_one
  exact newT_of fun H1 g1 _ => hQ H1 g1

theorem c_law21_three (hQ : ∀ v H', Sl rUnt H' (fun _ => True) v uT → G H H' → Q v H') : callV Try.prog (fnV fn_law21_three) [] H Q := by
  apply S_law21_three_of
  unfold S_law21_three
  refine bld_all (R := rU8) (A := fun _ => False) (xs := [1]) (.cons ⟨[.int .u8 1], rfl, rfl, trivial⟩ .nil) rfl (fun _ => rfl) rfl fun v H1 hv g1 _ => ?_
  have hok := hv.okcv
  try simp only [sv_cons, sv_cons1, sc_cons, sc_cons1, asB_bool, ifB_true, ifB_false, un_not, bin_lss, bin_leq, bin_gtr, bin_geq, bin_eql, bin_neq, bin_add, bin_sub, bin_mul, ok_int, ok_bool, ok_slice, ok_str, ok_ptr, ok_map, ok_func, ok_iface, ok_nil, List.all_cons, List.all_nil, Bool.and_true, Bool.true_and, seg, setSeg, List.drop_succ_cons, List.drop_zero, List.take_succ_cons, List.take_zero, List.cons_append, List.nil_append, List.append_nil, List.length_cons, List.length_nil, List.drop_nil, List.size_toArray, Nat.reduceAdd, Nat.reduceLeDiff, Nat.reduceBEq, Nat.zero_add, Nat.le_refl, decide_true, mkV, List.headD_cons, cellsV, w_fldV, w_ext, w_fldP, List.getElem?_toArray, List.getElem?_cons_zero, List.getElem?_cons_succ, beq_self_eq_true, selV, hok]
  have hs : Sl rU8 H1 (fun _ => True) v [1] := hv.sl (fun _ _ _ => trivial) fun _ _ => trivial
  refine bld_all (R := rUnt) (A := fun _ => True) (xs := uT) (.cons ⟨[.int .u8 1, .int .i64 1, .int .i64 0, .slice none 0 0], rfl, _, rfl, Sl.nil _ _ _ _ _⟩
    (.cons ⟨[.int .u8 0, .int .i64 0, .int .i64 0, .slice none 0 0], rfl, _, rfl, Sl.nil _ _ _ _ _⟩ (.cons ⟨[.int .u8 2, .int .i64 1, .int .i64 0, v], rfl, v, rfl, hs⟩ .nil))) rfl (fun h => by cases h) rfl fun u H2 hu g2 _ => ?_
  exact hQ u H2 (hu.sl (fun _ _ _ => trivial) fun _ _ => trivial) (g1.trans g2)

theorem c_law21_alive (hQ : ∀ H', G H H' → Q (.bool true) H') : callV Try.prog (fnV fn_law21_alive) [] H Q := by
  apply S_law21_alive_of
  unfold S_law21_alive
  refine c_law21_one fun H1 g1 => c_law21_three fun u1 H2 hu1 g2 => c_order_Cells (c := cO) hu1 fun a H3 ha g3 => ?_
  rw [uT_err, if_pos rfl, uT_cells] at ha
  rw [uT_err]
  try simp only [sv_cons, sv_cons1, sc_cons, sc_cons1, asB_bool, ifB_true, ifB_false, un_not, bin_lss, bin_leq, bin_gtr, bin_geq, bin_eql, bin_neq, bin_add, bin_sub, bin_mul, ok_int, ok_bool, ok_slice, ok_str, ok_ptr, ok_map, ok_func, ok_iface, ok_nil, List.all_cons, List.all_nil, Bool.and_true, Bool.true_and, seg, setSeg, List.drop_succ_cons, List.drop_zero, List.take_succ_cons, List.take_zero, List.cons_append, List.nil_append, List.append_nil, List.length_cons, List.length_nil, List.drop_nil, List.size_toArray, Nat.reduceAdd, Nat.reduceLeDiff, Nat.reduceBEq, Nat.zero_add, Nat.le_refl, decide_true, mkV, List.headD_cons, cellsV, w_fldV, w_ext, w_fldP, List.getElem?_toArray, List.getElem?_cons_zero, List.getElem?_cons_succ, beq_self_eq_true, selV]
  refine c_law21_one fun H4 g4 => c_law21_three fun u2 H5 hu2 g5 => c_order_Perm (c := cO) hu2 fun x H6 hx g6 => ?_
  rw [uT_err, if_pos rfl, uT_perms] at hx
  rw [uT_err]
  try simp only [sv_cons, sv_cons1, sc_cons, sc_cons1, asB_bool, ifB_true, ifB_false, un_not, bin_lss, bin_leq, bin_gtr, bin_geq, bin_eql, bin_neq, bin_add, bin_sub, bin_mul, ok_int, ok_bool, ok_slice, ok_str, ok_ptr, ok_map, ok_func, ok_iface, ok_nil, List.all_cons, List.all_nil, Bool.and_true, Bool.true_and, seg, setSeg, List.drop_succ_cons, List.drop_zero, List.take_succ_cons, List.take_zero, List.cons_append, List.nil_append, List.append_nil, List.length_cons, List.length_nil, List.drop_nil, List.size_toArray, Nat.reduceAdd, Nat.reduceLeDiff, Nat.reduceBEq, Nat.zero_add, Nat.le_refl, decide_true, mkV, List.headD_cons, cellsV, w_fldV, w_ext, w_fldP, List.getElem?_toArray, List.getElem?_cons_zero, List.getElem?_cons_succ, beq_self_eq_true, selV]
  have g36 := (g4.trans g5).trans g6
  have g := ((g1.trans g2).trans g3).trans g36
  have ha := ha.g g36
  refine join_of (fun s H' => H' = H6 ∧ s = [[.bool false]]) (fun K hK => ?_) ?_
  · refine ha.len (w_neI' rfl ?_)
    exact hx.len (w_neI' rfl (hK _ _ ⟨rfl, rfl⟩))
  rintro s H7 ⟨rfl, rfl⟩
  try simp only [sv_cons, sv_cons1, sc_cons, sc_cons1, asB_bool, ifB_true, ifB_false, un_not, bin_lss, bin_leq, bin_gtr, bin_geq, bin_eql, bin_neq, bin_add, bin_sub, bin_mul, ok_int, ok_bool, ok_slice, ok_str, ok_ptr, ok_map, ok_func, ok_iface, ok_nil, List.all_cons, List.all_nil, Bool.and_true, Bool.true_and, seg, setSeg, List.drop_succ_cons, List.drop_zero, List.take_succ_cons, List.take_zero, List.cons_append, List.nil_append, List.append_nil, List.length_cons, List.length_nil, List.drop_nil, List.size_toArray, Nat.reduceAdd, Nat.reduceLeDiff, Nat.reduceBEq, Nat.zero_add, Nat.le_refl, decide_true, mkV, List.headD_cons, cellsV, w_fldV, w_ext, w_fldP, List.getElem?_toArray, List.getElem?_cons_zero, List.getElem?_cons_succ, beq_self_eq_true, selV]
  refine hx.getSZ (by decide) (x := [1, 2, 3, 4, 0, 5]) rfl fun p hp => ?_
  refine bld_I (q := .u32) [97, 98, 99, 100, 101, 102] (by decide) rfl fun cv H8 hcv g8 _ => ?_
  refine c_order_Apply (hp.g g8) (hcv.slF (A' := fun _ => True) fun _ _ => trivial) (by decide) fun b H9 hb g9 => ?_
  rw [uT_apply] at hb
  rw [uT_ord]
  try simp only [sv_cons, sv_cons1, sc_cons, sc_cons1, asB_bool, ifB_true, ifB_false, un_not, bin_lss, bin_leq, bin_gtr, bin_geq, bin_eql, bin_neq, bin_add, bin_sub, bin_mul, ok_int, ok_bool, ok_slice, ok_str, ok_ptr, ok_map, ok_func, ok_iface, ok_nil, List.all_cons, List.all_nil, Bool.and_true, Bool.true_and, seg, setSeg, List.drop_succ_cons, List.drop_zero, List.take_succ_cons, List.take_zero, List.cons_append, List.nil_append, List.append_nil, List.length_cons, List.length_nil, List.drop_nil, List.size_toArray, Nat.reduceAdd, Nat.reduceLeDiff, Nat.reduceBEq, Nat.zero_add, Nat.le_refl, decide_true, mkV, List.headD_cons, cellsV, w_fldV, w_ext, w_fldP, List.getElem?_toArray, List.getElem?_cons_zero, List.getElem?_cons_succ, beq_self_eq_true, selV]
  have g79 := g8.trans g9
  refine join_of (fun s H' => G H9 H' ∧ s = [[.bool true]]) (fun K hK => ?_) ?_
  · refine (ha.g g79).getSZ (by decide) (x := [1, 3, 0]) rfl fun t ht => ?_
    refine bld_I (q := .i64) [1, 3, 0] (by decide) rfl fun w H10 hw g10 _ => ?_
    refine c_ref01_SameInts (ht.g g10) (hw.slF (A' := fun _ => True) fun _ _ => trivial) (by decide) ?_
    rw [decide_eq_true rfl]
    try simp only [sv_cons, sv_cons1, sc_cons, sc_cons1, asB_bool, ifB_true, ifB_false, un_not, bin_lss, bin_leq, bin_gtr, bin_geq, bin_eql, bin_neq, bin_add, bin_sub, bin_mul, ok_int, ok_bool, ok_slice, ok_str, ok_ptr, ok_map, ok_func, ok_iface, ok_nil, List.all_cons, List.all_nil, Bool.and_true, Bool.true_and, seg, setSeg, List.drop_succ_cons, List.drop_zero, List.take_succ_cons, List.take_zero, List.cons_append, List.nil_append, List.append_nil, List.length_cons, List.length_nil, List.drop_nil, List.size_toArray, Nat.reduceAdd, Nat.reduceLeDiff, Nat.reduceBEq, Nat.zero_add, Nat.le_refl, decide_true, mkV, List.headD_cons, cellsV, w_fldV, w_ext, w_fldP, List.getElem?_toArray, List.getElem?_cons_zero, List.getElem?_cons_succ, beq_self_eq_true, selV]
    refine (hx.g (g79.trans g10)).getSZ (by decide) (x := [1, 2, 3, 4, 0, 5]) rfl fun t2 ht2 => ?_
    refine bld_I (q := .i64) [1, 2, 3, 4, 0, 5] (by decide) rfl fun w2 H11 hw2 g11 _ => ?_
    refine c_ref01_SameInts (ht2.g g11) (hw2.slF (A' := fun _ => True) fun _ _ => trivial) (by decide) ?_
    rw [decide_eq_true rfl]
    try simp only [sv_cons, sv_cons1, sc_cons, sc_cons1, asB_bool, ifB_true, ifB_false, un_not, bin_lss, bin_leq, bin_gtr, bin_geq, bin_eql, bin_neq, bin_add, bin_sub, bin_mul, ok_int, ok_bool, ok_slice, ok_str, ok_ptr, ok_map, ok_func, ok_iface, ok_nil, List.all_cons, List.all_nil, Bool.and_true, Bool.true_and, seg, setSeg, List.drop_succ_cons, List.drop_zero, List.take_succ_cons, List.take_zero, List.cons_append, List.nil_append, List.append_nil, List.length_cons, List.length_nil, List.drop_nil, List.size_toArray, Nat.reduceAdd, Nat.reduceLeDiff, Nat.reduceBEq, Nat.zero_add, Nat.le_refl, decide_true, mkV, List.headD_cons, cellsV, w_fldV, w_ext, w_fldP, List.getElem?_toArray, List.getElem?_cons_zero, List.getElem?_cons_succ, beq_self_eq_true, selV]
    refine bld_I (q := .u32) [98, 99, 100, 101, 97, 102] (by decide) rfl fun w3 H12 hw3 g12 _ => ?_
    have g912 := (g10.trans g11).trans g12
    refine c_ref21_SameCells (hb.g g912) (hw3.slF (A' := fun _ => True) fun _ _ => trivial) (by decide) ?_
    rw [decide_eq_true rfl]
    exact hK _ _ ⟨g912, rfl⟩
  rintro s H10 ⟨g10, rfl⟩
  exact hQ _ ((g.trans g79).trans g10)

theorem permsL_mem {c : Cfg} {l : List Unt} {p : List Int} (h : p ∈ permsL c l) : okP p ∧ p.length = 2 * l.length := by
  unfold permsL at h
  obtain ⟨y, hy, rfl⟩ := List.mem_map.1 h
  obtain ⟨h1, h2⟩ := cellsL_mem hy
  obtain ⟨k1, k2, k3⟩ := permL_once h1
  refine ⟨⟨k2, fun x hx => ?_⟩, by omega⟩
  have := (k3 x).1 hx
  omega

theorem c_OrderBack {c : Cfg} {l : List Unt} {cs : List Int} {v w : Value} (hv : Sl rUnt H A v l) (hw : Sl (rI .u32) H B w cs) (hQ : ∀ H', G H H' → Q (.bool true) H') : callV Try.prog (fnV fn_law21_OrderBack) [.agg (cCfg c).toArray, v, w] H Q := by
  apply S_law21_OrderBack_of
  unfold S_law21_OrderBack
  refine newT_of fun H1 g1 _ => c_law21_alive fun H2 g2 => ?_
  have g := g1.trans g2
  refine join_of (fun s H' => H' = H2 ∧ ∃ b, s = [[.bool b]] ∧ (b = false → l.length ≤ 40 ∧ cs.length ≤ 100)) (fun K hK => ?_) ?_
  · refine c_ref21_GreatUnits (n := 40) (hv.g g) (by omega) fun b hb => ?_
    cases b with
    | true => exact hK _ _ ⟨rfl, true, rfl, fun h => by cases h⟩
    | false =>
      refine (hw.g g).len ?_
      try simp only [sv_cons, sv_cons1, sc_cons, sc_cons1, asB_bool, ifB_true, ifB_false, un_not, bin_lss, bin_leq, bin_gtr, bin_geq, bin_eql, bin_neq, bin_add, bin_sub, bin_mul, ok_int, ok_bool, ok_slice, ok_str, ok_ptr, ok_map, ok_func, ok_iface, ok_nil, List.all_cons, List.all_nil, Bool.and_true, Bool.true_and, seg, setSeg, List.drop_succ_cons, List.drop_zero, List.take_succ_cons, List.take_zero, List.cons_append, List.nil_append, List.append_nil, List.length_cons, List.length_nil, List.drop_nil, List.size_toArray, Nat.reduceAdd, Nat.reduceLeDiff, Nat.reduceBEq, Nat.zero_add, Nat.le_refl, decide_true, mkV, List.headD_cons, cellsV, w_fldV, w_ext, w_fldP, List.getElem?_toArray, List.getElem?_cons_zero, List.getElem?_cons_succ, beq_self_eq_true, selV]
      refine ifD_of (fun h => hK _ _ ⟨rfl, true, rfl, fun h => by cases h⟩) (fun h => ?_)
      exact hK _ _ ⟨rfl, false, rfl, fun _ => ⟨(hb rfl).1, by omega⟩⟩
  rintro s H3 ⟨rfl, b, rfl, hb⟩
  cases b with
  | true => exact hQ _ g
  | false =>
    obtain ⟨hl, hcl⟩ := hb rfl
    refine c_order_Perm (hv.g g) fun x H4 hx g4 => ?_
    have g := g.trans g4
    try simp only [sv_cons, sv_cons1, sc_cons, sc_cons1, asB_bool, ifB_true, ifB_false, un_not, bin_lss, bin_leq, bin_gtr, bin_geq, bin_eql, bin_neq, bin_add, bin_sub, bin_mul, ok_int, ok_bool, ok_slice, ok_str, ok_ptr, ok_map, ok_func, ok_iface, ok_nil, List.all_cons, List.all_nil, Bool.and_true, Bool.true_and, seg, setSeg, List.drop_succ_cons, List.drop_zero, List.take_succ_cons, List.take_zero, List.cons_append, List.nil_append, List.append_nil, List.length_cons, List.length_nil, List.drop_nil, List.size_toArray, Nat.reduceAdd, Nat.reduceLeDiff, Nat.reduceBEq, Nat.zero_add, Nat.le_refl, decide_true, mkV, List.headD_cons, cellsV, w_fldV, w_ext, w_fldP, List.getElem?_toArray, List.getElem?_cons_zero, List.getElem?_cons_succ, beq_self_eq_true, selV]
    refine ifD_of (fun _ => hQ _ g) (fun he => ?_)
    have he : unitsE c l = 0 := by omega
    rw [if_pos he] at hx
    have hm := (unitsE_zero he).1
    have hpl : (permsL c l).length ≤ 4 := by unfold permsL; rw [List.length_map, cellsL_len]; exact hm.2
    refine loop_up (permsL c l).length (fun i s H' => G H4 H' ∧ s = [[.int .i64 (i : Int)]]) ⟨G.fr (Fr.refl _ _), rfl⟩ ?_
    rintro i s H5 K hi ⟨g5, rfl⟩ hK
    refine hx.len ?_
    try simp only [sv_cons, sv_cons1, sc_cons, sc_cons1, asB_bool, ifB_true, ifB_false, un_not, bin_lss, bin_leq, bin_gtr, bin_geq, bin_eql, bin_neq, bin_add, bin_sub, bin_mul, ok_int, ok_bool, ok_slice, ok_str, ok_ptr, ok_map, ok_func, ok_iface, ok_nil, List.all_cons, List.all_nil, Bool.and_true, Bool.true_and, seg, setSeg, List.drop_succ_cons, List.drop_zero, List.take_succ_cons, List.take_zero, List.cons_append, List.nil_append, List.append_nil, List.length_cons, List.length_nil, List.drop_nil, List.size_toArray, Nat.reduceAdd, Nat.reduceLeDiff, Nat.reduceBEq, Nat.zero_add, Nat.le_refl, decide_true, mkV, List.headD_cons, cellsV, w_fldV, w_ext, w_fldP, List.getElem?_toArray, List.getElem?_cons_zero, List.getElem?_cons_succ, beq_self_eq_true, selV]
    refine ifD_of (fun h1 => ?_) (fun h1 => hQ _ (g.trans g5))
    have hlt : i < (permsL c l).length := by omega
    have hget := List.getElem?_eq_getElem hlt
    obtain ⟨hok, hlen⟩ := permsL_mem (List.getElem_mem hlt)
    generalize (permsL c l)[i] = p at *
    refine join_of (fun s H' => G H4 H' ∧ s = []) (fun K' hK' => ?_) ?_
    · refine (hx.g g5).getS hget fun p1 hp1 => ?_
      refine c_order_Apply hp1 (hw.g (g.trans g5)) (by omega) fun a H6 ha g6 => ?_
      try simp only [sv_cons, sv_cons1, sc_cons, sc_cons1, asB_bool, ifB_true, ifB_false, un_not, bin_lss, bin_leq, bin_gtr, bin_geq, bin_eql, bin_neq, bin_add, bin_sub, bin_mul, ok_int, ok_bool, ok_slice, ok_str, ok_ptr, ok_map, ok_func, ok_iface, ok_nil, List.all_cons, List.all_nil, Bool.and_true, Bool.true_and, seg, setSeg, List.drop_succ_cons, List.drop_zero, List.take_succ_cons, List.take_zero, List.cons_append, List.nil_append, List.append_nil, List.length_cons, List.length_nil, List.drop_nil, List.size_toArray, Nat.reduceAdd, Nat.reduceLeDiff, Nat.reduceBEq, Nat.zero_add, Nat.le_refl, decide_true, mkV, List.headD_cons, cellsV, w_fldV, w_ext, w_fldP, List.getElem?_toArray, List.getElem?_cons_zero, List.getElem?_cons_succ, beq_self_eq_true, selV]
      have g56 := g5.trans g6
      refine (hx.g g56).getS hget fun p2 hp2 => ?_
      refine c_order_Undo hp2 ha (by omega) fun bk H7 hbk g7 => ?_
      try simp only [sv_cons, sv_cons1, sc_cons, sc_cons1, asB_bool, ifB_true, ifB_false, un_not, bin_lss, bin_leq, bin_gtr, bin_geq, bin_eql, bin_neq, bin_add, bin_sub, bin_mul, ok_int, ok_bool, ok_slice, ok_str, ok_ptr, ok_map, ok_func, ok_iface, ok_nil, List.all_cons, List.all_nil, Bool.and_true, Bool.true_and, seg, setSeg, List.drop_succ_cons, List.drop_zero, List.take_succ_cons, List.take_zero, List.cons_append, List.nil_append, List.append_nil, List.length_cons, List.length_nil, List.drop_nil, List.size_toArray, Nat.reduceAdd, Nat.reduceLeDiff, Nat.reduceBEq, Nat.zero_add, Nat.le_refl, decide_true, mkV, List.headD_cons, cellsV, w_fldV, w_ext, w_fldP, List.getElem?_toArray, List.getElem?_cons_zero, List.getElem?_cons_succ, beq_self_eq_true, selV]
      have g57 := g56.trans g7
      refine (hx.g g57).getS hget fun p3 hp3 => ?_
      refine c_order_Undo hp3 (hw.g (g.trans g57)) (by omega) fun q H8 hq g8 => ?_
      try simp only [sv_cons, sv_cons1, sc_cons, sc_cons1, asB_bool, ifB_true, ifB_false, un_not, bin_lss, bin_leq, bin_gtr, bin_geq, bin_eql, bin_neq, bin_add, bin_sub, bin_mul, ok_int, ok_bool, ok_slice, ok_str, ok_ptr, ok_map, ok_func, ok_iface, ok_nil, List.all_cons, List.all_nil, Bool.and_true, Bool.true_and, seg, setSeg, List.drop_succ_cons, List.drop_zero, List.take_succ_cons, List.take_zero, List.cons_append, List.nil_append, List.append_nil, List.length_cons, List.length_nil, List.drop_nil, List.size_toArray, Nat.reduceAdd, Nat.reduceLeDiff, Nat.reduceBEq, Nat.zero_add, Nat.le_refl, decide_true, mkV, List.headD_cons, cellsV, w_fldV, w_ext, w_fldP, List.getElem?_toArray, List.getElem?_cons_zero, List.getElem?_cons_succ, beq_self_eq_true, selV]
      have g58 := g57.trans g8
      refine (hx.g g58).getS hget fun p4 hp4 => ?_
      refine c_order_Apply hp4 hq (by omega) fun z H9 hz g9 => ?_
      try simp only [sv_cons, sv_cons1, sc_cons, sc_cons1, asB_bool, ifB_true, ifB_false, un_not, bin_lss, bin_leq, bin_gtr, bin_geq, bin_eql, bin_neq, bin_add, bin_sub, bin_mul, ok_int, ok_bool, ok_slice, ok_str, ok_ptr, ok_map, ok_func, ok_iface, ok_nil, List.all_cons, List.all_nil, Bool.and_true, Bool.true_and, seg, setSeg, List.drop_succ_cons, List.drop_zero, List.take_succ_cons, List.take_zero, List.cons_append, List.nil_append, List.append_nil, List.length_cons, List.length_nil, List.drop_nil, List.size_toArray, Nat.reduceAdd, Nat.reduceLeDiff, Nat.reduceBEq, Nat.zero_add, Nat.le_refl, decide_true, mkV, List.headD_cons, cellsV, w_fldV, w_ext, w_fldP, List.getElem?_toArray, List.getElem?_cons_zero, List.getElem?_cons_succ, beq_self_eq_true, selV]
      have g59 := g58.trans g9
      refine hw.len (hv.len ?_)
      try simp only [sv_cons, sv_cons1, sc_cons, sc_cons1, asB_bool, ifB_true, ifB_false, un_not, bin_lss, bin_leq, bin_gtr, bin_geq, bin_eql, bin_neq, bin_add, bin_sub, bin_mul, ok_int, ok_bool, ok_slice, ok_str, ok_ptr, ok_map, ok_func, ok_iface, ok_nil, List.all_cons, List.all_nil, Bool.and_true, Bool.true_and, seg, setSeg, List.drop_succ_cons, List.drop_zero, List.take_succ_cons, List.take_zero, List.cons_append, List.nil_append, List.append_nil, List.length_cons, List.length_nil, List.drop_nil, List.size_toArray, Nat.reduceAdd, Nat.reduceLeDiff, Nat.reduceBEq, Nat.zero_add, Nat.le_refl, decide_true, mkV, List.headD_cons, cellsV, w_fldV, w_ext, w_fldP, List.getElem?_toArray, List.getElem?_cons_zero, List.getElem?_cons_succ, beq_self_eq_true, selV]
      rw [wrap_i64 (by unfold i64; omega)]
      have eo : ordE p cs = if cs.length = p.length then 0 else 2 := by
        unfold ordE
        rw [if_neg (by omega), if_pos hok]
        by_cases h : cs.length = p.length
        · rw [if_neg (by omega), if_pos h]
        · rw [if_pos h, if_neg h]
      refine ifD_of (fun h2 => ?_) (fun h2 => ?_)
      · rw [if_neg (by omega)] at eo
        rw [eo]
        refine join_of (fun s H' => H' = H9 ∧ s = [[.bool false]]) (fun K2 hK2 => ?_) ?_
        · try simp only [sv_cons, sv_cons1, sc_cons, sc_cons1, asB_bool, ifB_true, ifB_false, un_not, bin_lss, bin_leq, bin_gtr, bin_geq, bin_eql, bin_neq, bin_add, bin_sub, bin_mul, ok_int, ok_bool, ok_slice, ok_str, ok_ptr, ok_map, ok_func, ok_iface, ok_nil, List.all_cons, List.all_nil, Bool.and_true, Bool.true_and, seg, setSeg, List.drop_succ_cons, List.drop_zero, List.take_succ_cons, List.take_zero, List.cons_append, List.nil_append, List.append_nil, List.length_cons, List.length_nil, List.drop_nil, List.size_toArray, Nat.reduceAdd, Nat.reduceLeDiff, Nat.reduceBEq, Nat.zero_add, Nat.le_refl, decide_true, mkV, List.headD_cons, cellsV, w_fldV, w_ext, w_fldP, List.getElem?_toArray, List.getElem?_cons_zero, List.getElem?_cons_succ, beq_self_eq_true, selV]
          exact hK2 _ _ ⟨rfl, by simp⟩
        rintro s Ha ⟨rfl, rfl⟩
        exact hK' _ _ ⟨g59, rfl⟩
      · rw [if_pos (by omega)] at eo
        have e1 := undo_apply eo
        have e2 := apply_undo eo
        rw [eo, ordE_len eo (applyM_len eo), ordE_len eo (undoM_len eo)]
        rw [e1] at hbk
        rw [e2] at hz
        refine join_of (fun s H' => H' = H9 ∧ s = [[.bool false]]) (fun K2 hK2 => ?_) ?_
        · try simp only [sv_cons, sv_cons1, sc_cons, sc_cons1, asB_bool, ifB_true, ifB_false, un_not, bin_lss, bin_leq, bin_gtr, bin_geq, bin_eql, bin_neq, bin_add, bin_sub, bin_mul, ok_int, ok_bool, ok_slice, ok_str, ok_ptr, ok_map, ok_func, ok_iface, ok_nil, List.all_cons, List.all_nil, Bool.and_true, Bool.true_and, seg, setSeg, List.drop_succ_cons, List.drop_zero, List.take_succ_cons, List.take_zero, List.cons_append, List.nil_append, List.append_nil, List.length_cons, List.length_nil, List.drop_nil, List.size_toArray, Nat.reduceAdd, Nat.reduceLeDiff, Nat.reduceBEq, Nat.zero_add, Nat.le_refl, decide_true, mkV, List.headD_cons, cellsV, w_fldV, w_ext, w_fldP, List.getElem?_toArray, List.getElem?_cons_zero, List.getElem?_cons_succ, beq_self_eq_true, selV]
          refine c_ref21_SameCells (hbk.g (g8.trans g9)) (hw.g (g.trans g59)) (by omega) ?_
          rw [decide_eq_true rfl]
          try simp only [sv_cons, sv_cons1, sc_cons, sc_cons1, asB_bool, ifB_true, ifB_false, un_not, bin_lss, bin_leq, bin_gtr, bin_geq, bin_eql, bin_neq, bin_add, bin_sub, bin_mul, ok_int, ok_bool, ok_slice, ok_str, ok_ptr, ok_map, ok_func, ok_iface, ok_nil, List.all_cons, List.all_nil, Bool.and_true, Bool.true_and, seg, setSeg, List.drop_succ_cons, List.drop_zero, List.take_succ_cons, List.take_zero, List.cons_append, List.nil_append, List.append_nil, List.length_cons, List.length_nil, List.drop_nil, List.size_toArray, Nat.reduceAdd, Nat.reduceLeDiff, Nat.reduceBEq, Nat.zero_add, Nat.le_refl, decide_true, mkV, List.headD_cons, cellsV, w_fldV, w_ext, w_fldP, List.getElem?_toArray, List.getElem?_cons_zero, List.getElem?_cons_succ, beq_self_eq_true, selV, Bool.not_true]
          refine c_ref21_SameCells hz (hw.g (g.trans g59)) (by omega) ?_
          rw [decide_eq_true rfl]
          try simp only [sv_cons, sv_cons1, sc_cons, sc_cons1, asB_bool, ifB_true, ifB_false, un_not, bin_lss, bin_leq, bin_gtr, bin_geq, bin_eql, bin_neq, bin_add, bin_sub, bin_mul, ok_int, ok_bool, ok_slice, ok_str, ok_ptr, ok_map, ok_func, ok_iface, ok_nil, List.all_cons, List.all_nil, Bool.and_true, Bool.true_and, seg, setSeg, List.drop_succ_cons, List.drop_zero, List.take_succ_cons, List.take_zero, List.cons_append, List.nil_append, List.append_nil, List.length_cons, List.length_nil, List.drop_nil, List.size_toArray, Nat.reduceAdd, Nat.reduceLeDiff, Nat.reduceBEq, Nat.zero_add, Nat.le_refl, decide_true, mkV, List.headD_cons, cellsV, w_fldV, w_ext, w_fldP, List.getElem?_toArray, List.getElem?_cons_zero, List.getElem?_cons_succ, beq_self_eq_true, selV, Bool.not_true]
          exact hK2 _ _ ⟨rfl, rfl⟩
        rintro s Ha ⟨rfl, rfl⟩
        exact hK' _ _ ⟨g59, rfl⟩
    rintro s Ha ⟨ga, rfl⟩
    try simp only [sv_cons, sv_cons1, sc_cons, sc_cons1, asB_bool, ifB_true, ifB_false, un_not, bin_lss, bin_leq, bin_gtr, bin_geq, bin_eql, bin_neq, bin_add, bin_sub, bin_mul, ok_int, ok_bool, ok_slice, ok_str, ok_ptr, ok_map, ok_func, ok_iface, ok_nil, List.all_cons, List.all_nil, Bool.and_true, Bool.true_and, seg, setSeg, List.drop_succ_cons, List.drop_zero, List.take_succ_cons, List.take_zero, List.cons_append, List.nil_append, List.append_nil, List.length_cons, List.length_nil, List.drop_nil, List.size_toArray, Nat.reduceAdd, Nat.reduceLeDiff, Nat.reduceBEq, Nat.zero_add, Nat.le_refl, decide_true, mkV, List.headD_cons, cellsV, w_fldV, w_ext, w_fldP, List.getElem?_toArray, List.getElem?_cons_zero, List.getElem?_cons_succ, beq_self_eq_true, selV]
    rw [wrap_i64 (by unfold i64; omega)]
    exact hK _ _ hlt ⟨ga, by simp⟩

end Go.Proofs.Ytikebhnnmnlgaaa
