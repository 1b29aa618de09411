/- Contracts: orders of cells, both answers. -/
import Derived.Test.YtikebhnnmnlgaaaConOrd4
namespace Go.Proofs.Ytikebhnnmnlgaaa
open Go.Ab Go.Md
set_option linter.unusedVariables false
set_option linter.unusedSimpArgs false
set_option maxRecDepth 20000

variable {H : Heap} {Q : Value → Heap → Prop} {A B C : Nat → Prop}

theorem c_order_each_ints {xss : List (List Int)} {a fv : Value} {f : List Int → List Int} (ha : Sl (rSl (rI .i64)) H A a xss) (hl : xss.length ≤ 64)
    (hf : ∀ (i : Nat) xs x H1 (K : Value → Heap → Prop), xss[i]? = some xs → Sl (rI .i64) H1 A x xs → G H H1 → (∀ u H2, Sl (rI .i64) H2 (fun y => H1.size ≤ y) u (f xs) → G H1 H2 → K u H2) → callV Try.prog fv [.int .i64 (i : Int), x] H1 K)
    (hQ : ∀ v H', Sl (rSl (rI .i64)) H' (fun y => H.size ≤ y) v (xss.map f) → G H H' → Q v H') : callV Try.prog (fnV fn_order_each_int_int) [a, fv] H Q := by
  apply S_order_each_int_int_of
  unfold S_order_each_int_int
  refine ha.len ?_
  refine loop_up xss.length (fun i s H' => ∃ v, Bd (rSl (rI .i64)) H H' v ((xss.take i).map f) ∧ s = [[v], [.int .i64 (i : Int)]]) ⟨_, by simpa using Bd.nil _ (G.fr (Fr.refl _ H)), rfl⟩ ?_
  rintro i s H1 K hi ⟨v, hv, rfl⟩ hK
  try simp only [sv_cons, sv_cons1, sc_cons, sc_cons1, asB_bool, ifB_true, ifB_false, un_not, bin_lss, bin_leq, bin_gtr, bin_geq, bin_eql, bin_neq, bin_add, bin_sub, bin_mul, ok_int, ok_bool, ok_slice, ok_str, ok_ptr, ok_map, ok_func, ok_iface, ok_nil, List.all_cons, List.all_nil, Bool.and_true, Bool.true_and, seg, setSeg, List.drop_succ_cons, List.drop_zero, List.take_succ_cons, List.take_zero, List.cons_append, List.nil_append, List.append_nil, List.length_cons, List.length_nil, List.drop_nil, List.size_toArray, Nat.reduceAdd, Nat.reduceLeDiff, Nat.reduceBEq, Nat.zero_add, Nat.le_refl, decide_true, mkV, List.headD_cons, cellsV, w_fldV, w_ext, w_fldP, List.getElem?_toArray, List.getElem?_cons_zero, List.getElem?_cons_succ, beq_self_eq_true, selV]
  refine ifD_of (fun h1 => ?_) (fun h1 => ?_)
  · have hlt : i < xss.length := by omega
    have hx := List.getElem?_eq_getElem hlt
    refine (ha.g hv.g).getS hx fun x hxs => ?_
    refine hf i _ x H1 _ hx hxs hv.g fun u H3 hu g3 => ?_
    have lr : ((xss.take i).map f).length = i := by simp; omega
    have er : (xss.take i).map f ++ [f xss[i]] = (xss.take (i + 1)).map f := by rw [List.take_succ_eq_append_getElem hlt, List.map_append]; rfl
    refine hv.push g3 (vrep_S hu) rfl (by omega) (fun _ => rfl) rfl rfl (fun y hy _ => hy) (by rw [lr]; omega) (by rw [lr]; omega) fun w H4 hw => ?_
    try simp only [sv_cons, sv_cons1, sc_cons, sc_cons1, asB_bool, ifB_true, ifB_false, un_not, bin_lss, bin_leq, bin_gtr, bin_geq, bin_eql, bin_neq, bin_add, bin_sub, bin_mul, ok_int, ok_bool, ok_slice, ok_str, ok_ptr, ok_map, ok_func, ok_iface, ok_nil, List.all_cons, List.all_nil, Bool.and_true, Bool.true_and, seg, setSeg, List.drop_succ_cons, List.drop_zero, List.take_succ_cons, List.take_zero, List.cons_append, List.nil_append, List.append_nil, List.length_cons, List.length_nil, List.drop_nil, List.size_toArray, Nat.reduceAdd, Nat.reduceLeDiff, Nat.reduceBEq, Nat.zero_add, Nat.le_refl, decide_true, mkV, List.headD_cons, cellsV, w_fldV, w_ext, w_fldP, List.getElem?_toArray, List.getElem?_cons_zero, List.getElem?_cons_succ, beq_self_eq_true, selV]
    rw [wrap_i64 (by unfold i64; omega)]
    rw [er] at hw
    exact hK _ _ hlt ⟨w, hw, by simp⟩
  · have : i = xss.length := by omega
    subst this
    rw [List.take_length] at hv
    exact hQ v H1 hv.sl hv.g

def permsL (c : Cfg) (l : List Unt) : List (List Int) := (cellsL c l).map permL

theorem cellsL_mem {c : Cfg} {l : List Unt} {xs : List Int} (h : xs ∈ cellsL c l) : TP xs ∧ xs.length = l.length := by
  unfold cellsL at h
  obtain ⟨i, _, rfl⟩ := List.mem_map.1 h
  exact ⟨toldL_TP c l i, toldL_len⟩
theorem cellsL_len {c : Cfg} {l : List Unt} : (cellsL c l).length = c.all.length := by unfold cellsL; simp

theorem c_order_Perm {c : Cfg} {l : List Unt} {v : Value} (hv : Sl rUnt H A v l) (hQ : ∀ w H', Sl (rSl (rI .i64)) H' (fun y => H.size ≤ y) w (if unitsE c l = 0 then permsL c l else []) → G H H' → Q (tup2 w (.int .i64 (unitsE c l))) H') :
    callV Try.prog (fnV fn_order_Perm) [.agg (cCfg c).toArray, v] H Q := by
  apply S_order_Perm_of
  unfold S_order_Perm
  refine newT_of fun H1 g1 _ => c_order_Cells (hv.g g1) fun w H2 hw g2 => ?_
  have g := g1.trans g2
  try simp only [sv_cons, sv_cons1, sc_cons, sc_cons1, asB_bool, ifB_true, ifB_false, un_not, bin_lss, bin_leq, bin_gtr, bin_geq, bin_eql, bin_neq, bin_add, bin_sub, bin_mul, ok_int, ok_bool, ok_slice, ok_str, ok_ptr, ok_map, ok_func, ok_iface, ok_nil, List.all_cons, List.all_nil, Bool.and_true, Bool.true_and, seg, setSeg, List.drop_succ_cons, List.drop_zero, List.take_succ_cons, List.take_zero, List.cons_append, List.nil_append, List.append_nil, List.length_cons, List.length_nil, List.drop_nil, List.size_toArray, Nat.reduceAdd, Nat.reduceLeDiff, Nat.reduceBEq, Nat.zero_add, Nat.le_refl, decide_true, mkV, List.headD_cons, cellsV, w_fldV, w_ext, w_fldP, List.getElem?_toArray, List.getElem?_cons_zero, List.getElem?_cons_succ, beq_self_eq_true, selV]
  by_cases he : unitsE c l = 0
  · obtain ⟨hm, hn, hall⟩ := unitsE_zero he
    rw [he, if_pos rfl] at hQ
    rw [if_pos he] at hw
    rw [he]
    try simp only [sv_cons, sv_cons1, sc_cons, sc_cons1, asB_bool, ifB_true, ifB_false, un_not, bin_lss, bin_leq, bin_gtr, bin_geq, bin_eql, bin_neq, bin_add, bin_sub, bin_mul, ok_int, ok_bool, ok_slice, ok_str, ok_ptr, ok_map, ok_func, ok_iface, ok_nil, List.all_cons, List.all_nil, Bool.and_true, Bool.true_and, seg, setSeg, List.drop_succ_cons, List.drop_zero, List.take_succ_cons, List.take_zero, List.cons_append, List.nil_append, List.append_nil, List.length_cons, List.length_nil, List.drop_nil, List.size_toArray, Nat.reduceAdd, Nat.reduceLeDiff, Nat.reduceBEq, Nat.zero_add, Nat.le_refl, decide_true, mkV, List.headD_cons, cellsV, w_fldV, w_ext, w_fldP, List.getElem?_toArray, List.getElem?_cons_zero, List.getElem?_cons_succ, beq_self_eq_true, selV]
    have hlen := hm.2
    refine c_order_each_ints (f := permL) hw (by rw [cellsL_len]; omega) ?_ fun u H3 hu g3 => ?_
    · intro i xs x H3 K hx hxs g3 hK
      obtain ⟨h1, h2⟩ := cellsL_mem (List.mem_of_getElem? hx)
      exact c_order_Perm_1 hxs h1 (by omega) fun u H4 hu g4 => hK u H4 hu g4
    · exact hQ u H3 (hu.mono fun y hy _ => by have := g.size; omega) (g.trans g3)
  · rw [show decide (unitsE c l ≠ 0) = true from decide_eq_true he]
    try simp only [sv_cons, sv_cons1, sc_cons, sc_cons1, asB_bool, ifB_true, ifB_false, un_not, bin_lss, bin_leq, bin_gtr, bin_geq, bin_eql, bin_neq, bin_add, bin_sub, bin_mul, ok_int, ok_bool, ok_slice, ok_str, ok_ptr, ok_map, ok_func, ok_iface, ok_nil, List.all_cons, List.all_nil, Bool.and_true, Bool.true_and, seg, setSeg, List.drop_succ_cons, List.drop_zero, List.take_succ_cons, List.take_zero, List.cons_append, List.nil_append, List.append_nil, List.length_cons, List.length_nil, List.drop_nil, List.size_toArray, Nat.reduceAdd, Nat.reduceLeDiff, Nat.reduceBEq, Nat.zero_add, Nat.le_refl, decide_true, mkV, List.headD_cons, cellsV, w_fldV, w_ext, w_fldP, List.getElem?_toArray, List.getElem?_cons_zero, List.getElem?_cons_succ, beq_self_eq_true, selV]
    exact hQ _ _ (by rw [if_neg he]; exact Sl.nil _ _ _ _ _) g

theorem c_ref21_among {xs : List Int} {v : Value} {x : Int} (hv : Sl (rI .i64) H A v xs) (hl : xs.length ≤ 1000000) (hQ : Q (.bool (xs.contains x)) H) : callV Try.prog (fnV fn_ref21_among) [v, .int .i64 x] H Q := by
  apply S_ref21_among_of
  unfold S_ref21_among
  refine loop_up xs.length (fun i s H' => H' = H ∧ s = [[.int .i64 (i : Int)]] ∧ x ∉ xs.take i) ⟨rfl, rfl, by simp⟩ ?_
  rintro i s H1 K hi ⟨rfl, rfl, hno⟩ hK
  refine hv.len ?_
  try simp only [sv_cons, sv_cons1, sc_cons, sc_cons1, asB_bool, ifB_true, ifB_false, un_not, bin_lss, bin_leq, bin_gtr, bin_geq, bin_eql, bin_neq, bin_add, bin_sub, bin_mul, ok_int, ok_bool, ok_slice, ok_str, ok_ptr, ok_map, ok_func, ok_iface, ok_nil, List.all_cons, List.all_nil, Bool.and_true, Bool.true_and, seg, setSeg, List.drop_succ_cons, List.drop_zero, List.take_succ_cons, List.take_zero, List.cons_append, List.nil_append, List.append_nil, List.length_cons, List.length_nil, List.drop_nil, List.size_toArray, Nat.reduceAdd, Nat.reduceLeDiff, Nat.reduceBEq, Nat.zero_add, Nat.le_refl, decide_true, mkV, List.headD_cons, cellsV, w_fldV, w_ext, w_fldP, List.getElem?_toArray, List.getElem?_cons_zero, List.getElem?_cons_succ, beq_self_eq_true, selV]
  refine ifD_of (fun h1 => ?_) (fun h1 => ?_)
  · have hlt : i < xs.length := by omega
    refine hv.getI (List.getElem?_eq_getElem hlt) fun _ => ?_
    try simp only [sv_cons, sv_cons1, sc_cons, sc_cons1, asB_bool, ifB_true, ifB_false, un_not, bin_lss, bin_leq, bin_gtr, bin_geq, bin_eql, bin_neq, bin_add, bin_sub, bin_mul, ok_int, ok_bool, ok_slice, ok_str, ok_ptr, ok_map, ok_func, ok_iface, ok_nil, List.all_cons, List.all_nil, Bool.and_true, Bool.true_and, seg, setSeg, List.drop_succ_cons, List.drop_zero, List.take_succ_cons, List.take_zero, List.cons_append, List.nil_append, List.append_nil, List.length_cons, List.length_nil, List.drop_nil, List.size_toArray, Nat.reduceAdd, Nat.reduceLeDiff, Nat.reduceBEq, Nat.zero_add, Nat.le_refl, decide_true, mkV, List.headD_cons, cellsV, w_fldV, w_ext, w_fldP, List.getElem?_toArray, List.getElem?_cons_zero, List.getElem?_cons_succ, beq_self_eq_true, selV]
    refine ifD_of (fun h2 => ?_) (fun h2 => ?_)
    · rw [List.contains_iff_mem.2 (by rw [← h2]; exact List.getElem_mem hlt)] at hQ
      exact hQ
    · rw [wrap_i64 (by unfold i64; omega)]
      refine hK _ _ hlt ⟨rfl, by simp, fun hm => ?_⟩
      rw [List.take_succ_eq_append_getElem hlt, List.mem_append, List.mem_singleton] at hm
      rcases hm with h | h
      · exact hno h
      · exact h2 h.symm
  · rw [List.take_of_length_le (by omega)] at hno
    rw [show xs.contains x = false from by rw [Bool.eq_false_iff]; intro h; exact hno (List.contains_iff_mem.1 h)] at hQ
    exact hQ

def restR (told : List Int) (n : Nat) : List Int := ((List.range n).filter fun k : Nat => !told.contains (k : Int)).map Int.ofNat
theorem restR_succ {told : List Int} {n : Nat} : restR told (n + 1) = if told.contains (n : Int) then restR told n else restR told n ++ [(n : Int)] := by
  unfold restR
  rw [List.range_succ, List.filter_append]
  by_cases h : (n : Int) ∈ told
  · rw [if_pos (List.contains_iff_mem.2 h)]; simp [h]
  · rw [if_neg (fun h' => h (List.contains_iff_mem.1 h'))]; simp [h]
theorem restR_len {told : List Int} {n : Nat} : (restR told n).length ≤ n := by
  unfold restR
  rw [List.length_map]
  exact Nat.le_trans (List.length_filter_le _ _) (by simp)
theorem restR_all (told : List Int) : restR told (2 * told.length) = restL told := rfl

theorem c_ref21_Perm {c : Cfg} {l : List Unt} {v : Value} (hv : Sl rUnt H A v l) (hQ : ∀ w H', Sl (rSl (rI .i64)) H' (fun y => H.size ≤ y) w (if unitsE c l = 0 then permsL c l else []) → G H H' → Q (tup2 w (.int .i64 (unitsE c l))) H') :
    callV Try.prog (fnV fn_ref21_Perm) [.agg (cCfg c).toArray, v] H Q := by
  apply S_ref21_Perm_of
  unfold S_ref21_Perm
  refine newT_of fun H1 g1 _ => c_ref21_Cells (hv.g g1) fun all H2 hall g2 => ?_
  have g := g1.trans g2
  try simp only [sv_cons, sv_cons1, sc_cons, sc_cons1, asB_bool, ifB_true, ifB_false, un_not, bin_lss, bin_leq, bin_gtr, bin_geq, bin_eql, bin_neq, bin_add, bin_sub, bin_mul, ok_int, ok_bool, ok_slice, ok_str, ok_ptr, ok_map, ok_func, ok_iface, ok_nil, List.all_cons, List.all_nil, Bool.and_true, Bool.true_and, seg, setSeg, List.drop_succ_cons, List.drop_zero, List.take_succ_cons, List.take_zero, List.cons_append, List.nil_append, List.append_nil, List.length_cons, List.length_nil, List.drop_nil, List.size_toArray, Nat.reduceAdd, Nat.reduceLeDiff, Nat.reduceBEq, Nat.zero_add, Nat.le_refl, decide_true, mkV, List.headD_cons, cellsV, w_fldV, w_ext, w_fldP, List.getElem?_toArray, List.getElem?_cons_zero, List.getElem?_cons_succ, beq_self_eq_true, selV]
  by_cases he : unitsE c l = 0
  · obtain ⟨hm, hn, hu⟩ := unitsE_zero he
    rw [he, if_pos rfl] at hQ
    rw [if_pos he] at hall
    have hall := hall.old
    rw [he]
    try simp only [sv_cons, sv_cons1, sc_cons, sc_cons1, asB_bool, ifB_true, ifB_false, un_not, bin_lss, bin_leq, bin_gtr, bin_geq, bin_eql, bin_neq, bin_add, bin_sub, bin_mul, ok_int, ok_bool, ok_slice, ok_str, ok_ptr, ok_map, ok_func, ok_iface, ok_nil, List.all_cons, List.all_nil, Bool.and_true, Bool.true_and, seg, setSeg, List.drop_succ_cons, List.drop_zero, List.take_succ_cons, List.take_zero, List.cons_append, List.nil_append, List.append_nil, List.length_cons, List.length_nil, List.drop_nil, List.size_toArray, Nat.reduceAdd, Nat.reduceLeDiff, Nat.reduceBEq, Nat.zero_add, Nat.le_refl, decide_true, mkV, List.headD_cons, cellsV, w_fldV, w_ext, w_fldP, List.getElem?_toArray, List.getElem?_cons_zero, List.getElem?_cons_succ, beq_self_eq_true, selV]
    have hlen := hm.2
    have hcl := cellsL_len (c := c) (l := l)
    refine loop_up (cellsL c l).length (fun i s H' => ∃ w, Bd (rSl (rI .i64)) H2 H' w ((permsL c l).take i) ∧ s = [[w], [.int .i64 (i : Int)]]) ⟨_, by simpa using Bd.nil _ (G.fr (Fr.refl _ H2)), rfl⟩ ?_
    rintro i s H3 K hi ⟨w, hw, rfl⟩ hK
    have g3 := hw.g
    have htk : ((permsL c l).take i).length = i := by unfold permsL; simp; omega
    refine hall.len ?_
    try simp only [sv_cons, sv_cons1, sc_cons, sc_cons1, asB_bool, ifB_true, ifB_false, un_not, bin_lss, bin_leq, bin_gtr, bin_geq, bin_eql, bin_neq, bin_add, bin_sub, bin_mul, ok_int, ok_bool, ok_slice, ok_str, ok_ptr, ok_map, ok_func, ok_iface, ok_nil, List.all_cons, List.all_nil, Bool.and_true, Bool.true_and, seg, setSeg, List.drop_succ_cons, List.drop_zero, List.take_succ_cons, List.take_zero, List.cons_append, List.nil_append, List.append_nil, List.length_cons, List.length_nil, List.drop_nil, List.size_toArray, Nat.reduceAdd, Nat.reduceLeDiff, Nat.reduceBEq, Nat.zero_add, Nat.le_refl, decide_true, mkV, List.headD_cons, cellsV, w_fldV, w_ext, w_fldP, List.getElem?_toArray, List.getElem?_cons_zero, List.getElem?_cons_succ, beq_self_eq_true, selV]
    refine ifD_of (fun h1 => ?_) (fun h1 => ?_)
    · have hlt : i < (cellsL c l).length := by omega
      have hx : (cellsL c l)[i]? = some (cellsL c l)[i] := List.getElem?_eq_getElem hlt
      obtain ⟨htp, hlx⟩ := cellsL_mem (List.getElem_mem hlt)
      have epm : (permsL c l)[i]? = some (permL (cellsL c l)[i]) := by unfold permsL; rw [List.getElem?_map, hx]; rfl
      generalize (cellsL c l)[i] = told at *
      refine loop_up (2 * told.length) (fun n s H' => ∃ u, Bd (rI .i64) H3 H' u (restR told n) ∧ s = [[u], [.int .i64 (n : Int)]]) ⟨_, Bd.nil _ (G.fr (Fr.refl _ H3)), rfl⟩ ?_
      rintro n s H4 K4 hn4 ⟨u, hu, rfl⟩ hK4
      have hrl := restR_len (told := told) (n := n)
      refine hv.len ?_
      try simp only [sv_cons, sv_cons1, sc_cons, sc_cons1, asB_bool, ifB_true, ifB_false, un_not, bin_lss, bin_leq, bin_gtr, bin_geq, bin_eql, bin_neq, bin_add, bin_sub, bin_mul, ok_int, ok_bool, ok_slice, ok_str, ok_ptr, ok_map, ok_func, ok_iface, ok_nil, List.all_cons, List.all_nil, Bool.and_true, Bool.true_and, seg, setSeg, List.drop_succ_cons, List.drop_zero, List.take_succ_cons, List.take_zero, List.cons_append, List.nil_append, List.append_nil, List.length_cons, List.length_nil, List.drop_nil, List.size_toArray, Nat.reduceAdd, Nat.reduceLeDiff, Nat.reduceBEq, Nat.zero_add, Nat.le_refl, decide_true, mkV, List.headD_cons, cellsV, w_fldV, w_ext, w_fldP, List.getElem?_toArray, List.getElem?_cons_zero, List.getElem?_cons_succ, beq_self_eq_true, selV]
      rw [wrap_i64 (x := 2 * (l.length : Int)) (by unfold i64; omega)]
      try simp only [sv_cons, sv_cons1, sc_cons, sc_cons1, asB_bool, ifB_true, ifB_false, un_not, bin_lss, bin_leq, bin_gtr, bin_geq, bin_eql, bin_neq, bin_add, bin_sub, bin_mul, ok_int, ok_bool, ok_slice, ok_str, ok_ptr, ok_map, ok_func, ok_iface, ok_nil, List.all_cons, List.all_nil, Bool.and_true, Bool.true_and, seg, setSeg, List.drop_succ_cons, List.drop_zero, List.take_succ_cons, List.take_zero, List.cons_append, List.nil_append, List.append_nil, List.length_cons, List.length_nil, List.drop_nil, List.size_toArray, Nat.reduceAdd, Nat.reduceLeDiff, Nat.reduceBEq, Nat.zero_add, Nat.le_refl, decide_true, mkV, List.headD_cons, cellsV, w_fldV, w_ext, w_fldP, List.getElem?_toArray, List.getElem?_cons_zero, List.getElem?_cons_succ, beq_self_eq_true, selV]
      refine ifD_of (fun h2 => ?_) (fun h2 => ?_)
      · refine (hall.g (g3.trans hu.g)).getS hx fun tv htv => ?_
        refine c_ref21_among htv (by omega) ?_
        try simp only [sv_cons, sv_cons1, sc_cons, sc_cons1, asB_bool, ifB_true, ifB_false, un_not, bin_lss, bin_leq, bin_gtr, bin_geq, bin_eql, bin_neq, bin_add, bin_sub, bin_mul, ok_int, ok_bool, ok_slice, ok_str, ok_ptr, ok_map, ok_func, ok_iface, ok_nil, List.all_cons, List.all_nil, Bool.and_true, Bool.true_and, seg, setSeg, List.drop_succ_cons, List.drop_zero, List.take_succ_cons, List.take_zero, List.cons_append, List.nil_append, List.append_nil, List.length_cons, List.length_nil, List.drop_nil, List.size_toArray, Nat.reduceAdd, Nat.reduceLeDiff, Nat.reduceBEq, Nat.zero_add, Nat.le_refl, decide_true, mkV, List.headD_cons, cellsV, w_fldV, w_ext, w_fldP, List.getElem?_toArray, List.getElem?_cons_zero, List.getElem?_cons_succ, beq_self_eq_true, selV]
        have hrs := restR_succ (told := told) (n := n)
        refine join_of (fun s H' => ∃ u', Bd (rI .i64) H3 H' u' (restR told (n + 1)) ∧ s = [[u']]) (fun K' hK' => ?_) ?_
        · cases hc : told.contains (n : Int) with
          | true =>
            rw [hc, if_pos rfl] at hrs
            exact hK' _ _ ⟨u, by rw [hrs]; exact hu, rfl⟩
          | false =>
            rw [hc] at hrs
            simp only [Bool.false_eq_true, if_false] at hrs
            refine hu.push (G.fr (Fr.refl _ _)) (vrep_I (A := fun _ => False) (wrap_i64 (x := (n : Int)) (by unfold i64; omega))) rfl (by omega) (fun _ => rfl) rfl rfl (fun y hy _ => hy.elim) (by omega) (by omega) fun u' H5 hu' => ?_
            rw [← hrs] at hu'
            exact hK' _ _ ⟨u', hu', rfl⟩
        rintro s H5 ⟨u', hu', rfl⟩
        try simp only [sv_cons, sv_cons1, sc_cons, sc_cons1, asB_bool, ifB_true, ifB_false, un_not, bin_lss, bin_leq, bin_gtr, bin_geq, bin_eql, bin_neq, bin_add, bin_sub, bin_mul, ok_int, ok_bool, ok_slice, ok_str, ok_ptr, ok_map, ok_func, ok_iface, ok_nil, List.all_cons, List.all_nil, Bool.and_true, Bool.true_and, seg, setSeg, List.drop_succ_cons, List.drop_zero, List.take_succ_cons, List.take_zero, List.cons_append, List.nil_append, List.append_nil, List.length_cons, List.length_nil, List.drop_nil, List.size_toArray, Nat.reduceAdd, Nat.reduceLeDiff, Nat.reduceBEq, Nat.zero_add, Nat.le_refl, decide_true, mkV, List.headD_cons, cellsV, w_fldV, w_ext, w_fldP, List.getElem?_toArray, List.getElem?_cons_zero, List.getElem?_cons_succ, beq_self_eq_true, selV]
        rw [wrap_i64 (by unfold i64; omega)]
        exact hK4 _ _ (by omega) ⟨u', hu', by simp⟩
      · have : n = 2 * told.length := by omega
        subst this
        rw [restR_all] at hu
        have hrl := restL_len htp
        have g4 := g3.trans hu.g
        refine loop_up told.length (fun t s H' => ∃ p, Bd (rI .i64) H4 H' p (weave (told.take t) ((restL told).take t)) ∧ s = [[p], [.int .i64 (t : Int)]]) ⟨_, Bd.nil _ (G.fr (Fr.refl _ H4)), rfl⟩ ?_
        rintro t s H5 K5 ht ⟨p, hp, rfl⟩ hK5
        refine hv.len ?_
        try simp only [sv_cons, sv_cons1, sc_cons, sc_cons1, asB_bool, ifB_true, ifB_false, un_not, bin_lss, bin_leq, bin_gtr, bin_geq, bin_eql, bin_neq, bin_add, bin_sub, bin_mul, ok_int, ok_bool, ok_slice, ok_str, ok_ptr, ok_map, ok_func, ok_iface, ok_nil, List.all_cons, List.all_nil, Bool.and_true, Bool.true_and, seg, setSeg, List.drop_succ_cons, List.drop_zero, List.take_succ_cons, List.take_zero, List.cons_append, List.nil_append, List.append_nil, List.length_cons, List.length_nil, List.drop_nil, List.size_toArray, Nat.reduceAdd, Nat.reduceLeDiff, Nat.reduceBEq, Nat.zero_add, Nat.le_refl, decide_true, mkV, List.headD_cons, cellsV, w_fldV, w_ext, w_fldP, List.getElem?_toArray, List.getElem?_cons_zero, List.getElem?_cons_succ, beq_self_eq_true, selV]
        refine ifD_of (fun h3 => ?_) (fun h3 => ?_)
        · have hlt3 : t < told.length := by omega
          have hlt4 : t < (restL told).length := by omega
          have ga := List.getElem?_eq_getElem hlt3
          have gb := List.getElem?_eq_getElem hlt4
          refine (hall.g (g4.trans hp.g)).atS hx fun p1 tv h1 htv => h1.load rfl (htv.getI ga fun wa => ?_)
          refine (hu.sl.g hp.g).getI gb fun wb => ?_
          refine bld_I (q := .i64) [told[t], (restL told)[t]] (fun x hx => by
            simp only [List.mem_cons, List.not_mem_nil, or_false] at hx
            rcases hx with rfl | rfl
            · exact wa
            · exact wb) rfl fun z H6 hz g6 s6 => ⟨(h1.g g6).load rfl rfl, ?_⟩
          have hwl : (weave (told.take t) ((restL told).take t)).length = 2 * t := by
            rw [weave_len (by rw [List.length_take, List.length_take, hrl])]
            rw [List.length_take]; omega
          have hws : weave (told.take t) ((restL told).take t) ++ [told[t], (restL told)[t]] = weave (told.take (t + 1)) ((restL told).take (t + 1)) := by
            rw [List.take_add_one (l := told), List.take_add_one (l := restL told), ga, gb]
            exact (weave_snoc (by rw [List.length_take, List.length_take, hrl])).symm
          refine hp.app g6 hz.src rfl (by omega) rfl (fun y hy _ => by simp at hy) (by rw [hwl]; simp; omega) (by rw [hwl]; simp; omega) fun p' H7 hp' => ?_
          rw [hws] at hp'
          refine ⟨(h1.re hp.g hp'.g fun y (hy : y < H2.size) => by have := g4.size; omega).load rfl rfl, ?_⟩
          try simp only [sv_cons, sv_cons1, sc_cons, sc_cons1, asB_bool, ifB_true, ifB_false, un_not, bin_lss, bin_leq, bin_gtr, bin_geq, bin_eql, bin_neq, bin_add, bin_sub, bin_mul, ok_int, ok_bool, ok_slice, ok_str, ok_ptr, ok_map, ok_func, ok_iface, ok_nil, List.all_cons, List.all_nil, Bool.and_true, Bool.true_and, seg, setSeg, List.drop_succ_cons, List.drop_zero, List.take_succ_cons, List.take_zero, List.cons_append, List.nil_append, List.append_nil, List.length_cons, List.length_nil, List.drop_nil, List.size_toArray, Nat.reduceAdd, Nat.reduceLeDiff, Nat.reduceBEq, Nat.zero_add, Nat.le_refl, decide_true, mkV, List.headD_cons, cellsV, w_fldV, w_ext, w_fldP, List.getElem?_toArray, List.getElem?_cons_zero, List.getElem?_cons_succ, beq_self_eq_true, selV]
          rw [wrap_i64 (by unfold i64; omega)]
          exact hK5 _ _ hlt3 ⟨p', hp', by simp⟩
        · have : t = told.length := by omega
          subst this
          rw [List.take_length, List.take_of_length_le (by rw [hrl]; exact Nat.le_refl _)] at hp
          have eg : (permsL c l).take (i + 1) = (permsL c l).take i ++ [weave told (restL told)] := by
            rw [List.take_add_one, epm]; rfl
          refine (hw.up hu.g).push hp.g (vrep_S hp.sl) rfl (by omega) (fun _ => rfl) rfl rfl (fun y hy _ => hy) (by rw [htk]; omega) (by rw [htk]; omega) fun w' H7 hw' => ?_
          try simp only [sv_cons, sv_cons1, sc_cons, sc_cons1, asB_bool, ifB_true, ifB_false, un_not, bin_lss, bin_leq, bin_gtr, bin_geq, bin_eql, bin_neq, bin_add, bin_sub, bin_mul, ok_int, ok_bool, ok_slice, ok_str, ok_ptr, ok_map, ok_func, ok_iface, ok_nil, List.all_cons, List.all_nil, Bool.and_true, Bool.true_and, seg, setSeg, List.drop_succ_cons, List.drop_zero, List.take_succ_cons, List.take_zero, List.cons_append, List.nil_append, List.append_nil, List.length_cons, List.length_nil, List.drop_nil, List.size_toArray, Nat.reduceAdd, Nat.reduceLeDiff, Nat.reduceBEq, Nat.zero_add, Nat.le_refl, decide_true, mkV, List.headD_cons, cellsV, w_fldV, w_ext, w_fldP, List.getElem?_toArray, List.getElem?_cons_zero, List.getElem?_cons_succ, beq_self_eq_true, selV]
          rw [wrap_i64 (by unfold i64; omega)]
          rw [← eg] at hw'
          exact hK _ _ (by omega) ⟨w', hw', by simp⟩
    · have el : (permsL c l).take i = permsL c l := List.take_of_length_le (by unfold permsL; simp; omega)
      rw [el] at hw
      exact hQ w H3 (hw.sl.mono fun y hy _ => by have := g.size; omega) (g.trans hw.g)
  · rw [show decide (unitsE c l ≠ 0) = true from decide_eq_true he]
    try simp only [sv_cons, sv_cons1, sc_cons, sc_cons1, asB_bool, ifB_true, ifB_false, un_not, bin_lss, bin_leq, bin_gtr, bin_geq, bin_eql, bin_neq, bin_add, bin_sub, bin_mul, ok_int, ok_bool, ok_slice, ok_str, ok_ptr, ok_map, ok_func, ok_iface, ok_nil, List.all_cons, List.all_nil, Bool.and_true, Bool.true_and, seg, setSeg, List.drop_succ_cons, List.drop_zero, List.take_succ_cons, List.take_zero, List.cons_append, List.nil_append, List.append_nil, List.length_cons, List.length_nil, List.drop_nil, List.size_toArray, Nat.reduceAdd, Nat.reduceLeDiff, Nat.reduceBEq, Nat.zero_add, Nat.le_refl, decide_true, mkV, List.headD_cons, cellsV, w_fldV, w_ext, w_fldP, List.getElem?_toArray, List.getElem?_cons_zero, List.getElem?_cons_succ, beq_self_eq_true, selV]
    exact hQ _ _ (by rw [if_neg he]; exact Sl.nil _ _ _ _ _) g

end Go.Proofs.Ytikebhnnmnlgaaa
