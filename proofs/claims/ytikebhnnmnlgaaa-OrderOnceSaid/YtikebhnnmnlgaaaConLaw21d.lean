/- The statement 'OrderOnce': its function says true. -/
import Derived.Test.YtikebhnnmnlgaaaConLaw21c
namespace Go.Proofs.Ytikebhnnmnlgaaa
open Go.Ab Go.Md
set_option linter.unusedVariables false
set_option linter.unusedSimpArgs false
set_option maxRecDepth 20000

variable {H : Heap} {Q : Value → Heap → Prop} {A B C : Nat → Prop}

def metL (p : List Int) (i : Nat) : List Int := (List.range 80).map fun k : Nat => if (k : Int) ∈ p.take i then (1 : Int) else 0
theorem metL_len {p : List Int} {i : Nat} : (metL p i).length = 80 := by unfold metL; simp
theorem metL_get {p : List Int} {i k : Nat} (h : k < 80) : (metL p i)[k]? = some (if (k : Int) ∈ p.take i then (1 : Int) else 0) := by
  unfold metL; rw [List.getElem?_map, List.getElem?_range h]; rfl
theorem metL_set {p : List Int} {i k : Nat} (hk : k < 80) (hi : p[i]? = some (k : Int)) : (metL p i).set k 1 = metL p (i + 1) := by
  apply List.ext_getElem?
  intro j
  rw [List.getElem?_set, metL_len]
  by_cases hj : j < 80
  · rw [metL_get hj, metL_get hj, List.take_add_one, hi]
    by_cases e : k = j
    · subst e; rw [if_pos rfl, if_pos hk]; simp
    · rw [if_neg e]
      congr 1
      have hne : ¬ (j : Int) = (k : Int) := by omega
      simp only [Option.toList_some, List.mem_append, List.mem_singleton, hne, or_false]
  · rw [if_neg (by omega), List.getElem?_eq_none (by rw [metL_len]; omega), List.getElem?_eq_none (by rw [metL_len]; omega)]
theorem metL_zero {p : List Int} : metL p 0 = List.replicate 80 0 := by
  unfold metL
  apply List.ext_getElem?
  intro j
  rw [List.getElem?_map, List.getElem?_replicate]
  by_cases h : j < 80
  · rw [List.getElem?_range h, if_pos h]; simp
  · rw [List.getElem?_eq_none (by simp; omega), if_neg h]; rfl

theorem rest_lt {told : List Int} {s t : Nat} {a b : Int} (h : s < t) (ha : (restL told)[s]? = some a) (hb : (restL told)[t]? = some b) : a < b := by
  have hs := (List.getElem?_eq_some_iff.1 ha)
  have ht := (List.getElem?_eq_some_iff.1 hb)
  have := List.pairwise_iff_getElem.1 (restL_sorted told) s t hs.1 ht.1 h
  rw [hs.2, ht.2] at this
  exact this

/-- The last of the others that was met. -/
def lastR (told : List Int) (k : Nat) : Int := if k < 2 then -1 else (restL told).getD (k / 2 - 1) 0

theorem lastR_lt {told : List Int} {k t : Nat} {b : Int} (hk : k = 2 * t + 1) (hb : (restL told)[t]? = some b) : lastR told k < b := by
  unfold lastR
  split
  · have := (restL_mem.1 (List.mem_of_getElem? hb)).1; omega
  · have e : k / 2 - 1 = t - 1 := by omega
    rw [e, List.getD_eq_getElem?_getD]
    have hl := (List.getElem?_eq_some_iff.1 hb).1
    rw [List.getElem?_eq_getElem (by omega), Option.getD_some]
    exact rest_lt (s := t - 1) (t := t) (by omega) (List.getElem?_eq_getElem _) hb
theorem lastR_even {told : List Int} {k t : Nat} (hk : k = 2 * t) : lastR told (k + 1) = lastR told k := by
  unfold lastR
  by_cases h : k = 0
  · subst h; simp
  · rw [if_neg (by omega), if_neg (by omega), show (k + 1) / 2 - 1 = k / 2 - 1 by omega]
theorem lastR_odd {told : List Int} {k t : Nat} {b : Int} (hk : k = 2 * t + 1) (hb : (restL told)[t]? = some b) : lastR told (k + 1) = b := by
  unfold lastR
  rw [if_neg (by omega), show (k + 1) / 2 - 1 = t by omega, List.getD_eq_getElem?_getD, hb]; rfl

theorem asD_of {p : Prop} [Decidable p] {k : Bool → Prop} (ht : p → k true) (hf : ¬ p → k false) : asB (.bool (decide p)) k := by
  by_cases h : p
  · rw [decide_eq_true h]; exact ht h
  · rw [decide_eq_false h]; exact hf h

theorem c_OrderOnce {c : Cfg} {l : List Unt} {v : Value} (hv : Sl rUnt H A v l) (hQ : ∀ H', G H H' → Q (.bool true) H') : callV Try.prog (fnV fn_law21_OrderOnce) [.agg (cCfg c).toArray, v] H Q := by
  apply S_law21_OrderOnce_of
  unfold S_law21_OrderOnce
  refine newT_of fun H1 g1 _ => c_law21_alive fun H2 g2 => ?_
  have g := g1.trans g2
  refine join_of (fun s H' => H' = H2 ∧ ∃ b, s = [[.bool b]] ∧ (b = false → l.length ≤ 40)) (fun K hK => ?_) ?_
  · refine c_ref21_GreatUnits (n := 40) (hv.g g) (by omega) fun b hb => ?_
    cases b with
    | true => exact hK _ _ ⟨rfl, true, rfl, fun h => by cases h⟩
    | false => exact hK _ _ ⟨rfl, false, rfl, fun _ => (hb rfl).1⟩
  rintro s H3 ⟨rfl, b, rfl, hb⟩
  cases b with
  | true => exact hQ _ g
  | false =>
    have hl := hb rfl
    refine c_order_Cells (hv.g g) fun a H4 ha g4 => ?_
    try simp only [sv_cons, sv_cons1, sc_cons, sc_cons1, asB_bool, ifB_true, ifB_false, un_not, bin_lss, bin_leq, bin_gtr, bin_geq, bin_eql, bin_neq, bin_add, bin_sub, bin_mul, ok_int, ok_bool, ok_slice, ok_str, ok_ptr, ok_map, ok_func, ok_iface, ok_nil, List.all_cons, List.all_nil, Bool.and_true, Bool.true_and, seg, setSeg, List.drop_succ_cons, List.drop_zero, List.take_succ_cons, List.take_zero, List.cons_append, List.nil_append, List.append_nil, List.length_cons, List.length_nil, List.drop_nil, List.size_toArray, Nat.reduceAdd, Nat.reduceLeDiff, Nat.reduceBEq, Nat.zero_add, Nat.le_refl, decide_true, mkV, List.headD_cons, cellsV, w_fldV, w_ext, w_fldP, List.getElem?_toArray, List.getElem?_cons_zero, List.getElem?_cons_succ, beq_self_eq_true, selV]
    have g := g.trans g4
    refine c_order_Perm (hv.g g) fun x H5 hx g5 => ?_
    try simp only [sv_cons, sv_cons1, sc_cons, sc_cons1, asB_bool, ifB_true, ifB_false, un_not, bin_lss, bin_leq, bin_gtr, bin_geq, bin_eql, bin_neq, bin_add, bin_sub, bin_mul, ok_int, ok_bool, ok_slice, ok_str, ok_ptr, ok_map, ok_func, ok_iface, ok_nil, List.all_cons, List.all_nil, Bool.and_true, Bool.true_and, seg, setSeg, List.drop_succ_cons, List.drop_zero, List.take_succ_cons, List.take_zero, List.cons_append, List.nil_append, List.append_nil, List.length_cons, List.length_nil, List.drop_nil, List.size_toArray, Nat.reduceAdd, Nat.reduceLeDiff, Nat.reduceBEq, Nat.zero_add, Nat.le_refl, decide_true, mkV, List.headD_cons, cellsV, w_fldV, w_ext, w_fldP, List.getElem?_toArray, List.getElem?_cons_zero, List.getElem?_cons_succ, beq_self_eq_true, selV]
    have g := g.trans g5
    refine c_conf_Levels fun lv H6 hlv g6 => ?_
    try simp only [sv_cons, sv_cons1, sc_cons, sc_cons1, asB_bool, ifB_true, ifB_false, un_not, bin_lss, bin_leq, bin_gtr, bin_geq, bin_eql, bin_neq, bin_add, bin_sub, bin_mul, ok_int, ok_bool, ok_slice, ok_str, ok_ptr, ok_map, ok_func, ok_iface, ok_nil, List.all_cons, List.all_nil, Bool.and_true, Bool.true_and, seg, setSeg, List.drop_succ_cons, List.drop_zero, List.take_succ_cons, List.take_zero, List.cons_append, List.nil_append, List.append_nil, List.length_cons, List.length_nil, List.drop_nil, List.size_toArray, Nat.reduceAdd, Nat.reduceLeDiff, Nat.reduceBEq, Nat.zero_add, Nat.le_refl, decide_true, mkV, List.headD_cons, cellsV, w_fldV, w_ext, w_fldP, List.getElem?_toArray, List.getElem?_cons_zero, List.getElem?_cons_succ, beq_self_eq_true, selV]
    have g := g.trans g6
    have ha := ha.g (g5.trans g6)
    have hx := hx.g g6
    by_cases he : unitsE c l = 0
    · obtain ⟨hm, hn, hall⟩ := unitsE_zero he
      rw [if_pos he] at ha hx
      have e0 : c.err = 0 := by unfold Cfg.err; rw [if_pos hm]
      have el : c.levels = c.all := by unfold Cfg.levels; rw [if_pos hm]
      rw [el] at hlv
      rw [he, e0]
      try simp only [sv_cons, sv_cons1, sc_cons, sc_cons1, asB_bool, ifB_true, ifB_false, un_not, bin_lss, bin_leq, bin_gtr, bin_geq, bin_eql, bin_neq, bin_add, bin_sub, bin_mul, ok_int, ok_bool, ok_slice, ok_str, ok_ptr, ok_map, ok_func, ok_iface, ok_nil, List.all_cons, List.all_nil, Bool.and_true, Bool.true_and, seg, setSeg, List.drop_succ_cons, List.drop_zero, List.take_succ_cons, List.take_zero, List.cons_append, List.nil_append, List.append_nil, List.length_cons, List.length_nil, List.drop_nil, List.size_toArray, Nat.reduceAdd, Nat.reduceLeDiff, Nat.reduceBEq, Nat.zero_add, Nat.le_refl, decide_true, mkV, List.headD_cons, cellsV, w_fldV, w_ext, w_fldP, List.getElem?_toArray, List.getElem?_cons_zero, List.getElem?_cons_succ, beq_self_eq_true, selV]
      have hlen := hm.2
      have hcl := cellsL_len (c := c) (l := l)
      have hpl : (permsL c l).length = c.all.length := by unfold permsL; rw [List.length_map, hcl]
      refine join_of (fun s H' => H' = H6 ∧ s = [[.bool false]]) (fun K hK => hK _ _ ⟨rfl, rfl⟩) ?_
      rintro s H7 ⟨rfl, rfl⟩
      try simp only [sv_cons, sv_cons1, sc_cons, sc_cons1, asB_bool, ifB_true, ifB_false, un_not, bin_lss, bin_leq, bin_gtr, bin_geq, bin_eql, bin_neq, bin_add, bin_sub, bin_mul, ok_int, ok_bool, ok_slice, ok_str, ok_ptr, ok_map, ok_func, ok_iface, ok_nil, List.all_cons, List.all_nil, Bool.and_true, Bool.true_and, seg, setSeg, List.drop_succ_cons, List.drop_zero, List.take_succ_cons, List.take_zero, List.cons_append, List.nil_append, List.append_nil, List.length_cons, List.length_nil, List.drop_nil, List.size_toArray, Nat.reduceAdd, Nat.reduceLeDiff, Nat.reduceBEq, Nat.zero_add, Nat.le_refl, decide_true, mkV, List.headD_cons, cellsV, w_fldV, w_ext, w_fldP, List.getElem?_toArray, List.getElem?_cons_zero, List.getElem?_cons_succ, beq_self_eq_true, selV]
      refine join_of (fun s H' => H' = H7 ∧ s = [[.bool false]]) (fun K hK => ?_) ?_
      · refine ha.len (hlv.len (w_neI' (by rw [hcl]) ?_))
        exact hx.len (hlv.len (w_neI' (by rw [hpl]) (hK _ _ ⟨rfl, rfl⟩)))
      rintro s H8 ⟨rfl, rfl⟩
      try simp only [sv_cons, sv_cons1, sc_cons, sc_cons1, asB_bool, ifB_true, ifB_false, un_not, bin_lss, bin_leq, bin_gtr, bin_geq, bin_eql, bin_neq, bin_add, bin_sub, bin_mul, ok_int, ok_bool, ok_slice, ok_str, ok_ptr, ok_map, ok_func, ok_iface, ok_nil, List.all_cons, List.all_nil, Bool.and_true, Bool.true_and, seg, setSeg, List.drop_succ_cons, List.drop_zero, List.take_succ_cons, List.take_zero, List.cons_append, List.nil_append, List.append_nil, List.length_cons, List.length_nil, List.drop_nil, List.size_toArray, Nat.reduceAdd, Nat.reduceLeDiff, Nat.reduceBEq, Nat.zero_add, Nat.le_refl, decide_true, mkV, List.headD_cons, cellsV, w_fldV, w_ext, w_fldP, List.getElem?_toArray, List.getElem?_cons_zero, List.getElem?_cons_succ, beq_self_eq_true, selV]
      refine loop_up (permsL c l).length (fun i s H' => G H8 H' ∧ s = [[.int .i64 (i : Int)]]) ⟨G.fr (Fr.refl _ _), rfl⟩ ?_
      rintro i s H9 K hi ⟨g9, rfl⟩ hK
      refine hx.len ?_
      try simp only [sv_cons, sv_cons1, sc_cons, sc_cons1, asB_bool, ifB_true, ifB_false, un_not, bin_lss, bin_leq, bin_gtr, bin_geq, bin_eql, bin_neq, bin_add, bin_sub, bin_mul, ok_int, ok_bool, ok_slice, ok_str, ok_ptr, ok_map, ok_func, ok_iface, ok_nil, List.all_cons, List.all_nil, Bool.and_true, Bool.true_and, seg, setSeg, List.drop_succ_cons, List.drop_zero, List.take_succ_cons, List.take_zero, List.cons_append, List.nil_append, List.append_nil, List.length_cons, List.length_nil, List.drop_nil, List.size_toArray, Nat.reduceAdd, Nat.reduceLeDiff, Nat.reduceBEq, Nat.zero_add, Nat.le_refl, decide_true, mkV, List.headD_cons, cellsV, w_fldV, w_ext, w_fldP, List.getElem?_toArray, List.getElem?_cons_zero, List.getElem?_cons_succ, beq_self_eq_true, selV]
      refine ifD_of (fun h1 => ?_) (fun h1 => hQ _ (g.trans g9))
      have hlt : i < (permsL c l).length := by omega
      have hgc : (cellsL c l)[i]? = some (cellsL c l)[i] := List.getElem?_eq_getElem (by omega)
      obtain ⟨htp, htl⟩ := cellsL_mem (List.getElem_mem (show i < (cellsL c l).length by omega))
      have hgp : (permsL c l)[i]? = some (permL (cellsL c l)[i]) := by unfold permsL; rw [List.getElem?_map, hgc]; rfl
      generalize (cellsL c l)[i] = told at *
      obtain ⟨k1, k2, k3⟩ := permL_once htp
      have hrl := restL_len htp
      refine join_of (fun s H' => H' = H9 ∧ s = [[.bool false]]) (fun K' hK' => ?_) ?_
      · refine (ha.g g9).getS hgc fun t ht => ht.len (hv.len (w_neI' (by rw [htl]) ?_))
        refine (hx.g g9).getS hgp fun p hp => hp.len (hv.len ?_)
        try simp only [sv_cons, sv_cons1, sc_cons, sc_cons1, asB_bool, ifB_true, ifB_false, un_not, bin_lss, bin_leq, bin_gtr, bin_geq, bin_eql, bin_neq, bin_add, bin_sub, bin_mul, ok_int, ok_bool, ok_slice, ok_str, ok_ptr, ok_map, ok_func, ok_iface, ok_nil, List.all_cons, List.all_nil, Bool.and_true, Bool.true_and, seg, setSeg, List.drop_succ_cons, List.drop_zero, List.take_succ_cons, List.take_zero, List.cons_append, List.nil_append, List.append_nil, List.length_cons, List.length_nil, List.drop_nil, List.size_toArray, Nat.reduceAdd, Nat.reduceLeDiff, Nat.reduceBEq, Nat.zero_add, Nat.le_refl, decide_true, mkV, List.headD_cons, cellsV, w_fldV, w_ext, w_fldP, List.getElem?_toArray, List.getElem?_cons_zero, List.getElem?_cons_succ, beq_self_eq_true, selV]
        rw [wrap_i64 (by unfold i64; omega)]
        refine hK' _ _ ⟨rfl, ?_⟩
        rw [k1, htl]
        exact (jb_f (by simp)).symm
      rintro s H10 ⟨rfl, rfl⟩
      try simp only [sv_cons, sv_cons1, sc_cons, sc_cons1, asB_bool, ifB_true, ifB_false, un_not, bin_lss, bin_leq, bin_gtr, bin_geq, bin_eql, bin_neq, bin_add, bin_sub, bin_mul, ok_int, ok_bool, ok_slice, ok_str, ok_ptr, ok_map, ok_func, ok_iface, ok_nil, List.all_cons, List.all_nil, Bool.and_true, Bool.true_and, seg, setSeg, List.drop_succ_cons, List.drop_zero, List.take_succ_cons, List.take_zero, List.cons_append, List.nil_append, List.append_nil, List.length_cons, List.length_nil, List.drop_nil, List.size_toArray, Nat.reduceAdd, Nat.reduceLeDiff, Nat.reduceBEq, Nat.zero_add, Nat.le_refl, decide_true, mkV, List.headD_cons, cellsV, w_fldV, w_ext, w_fldP, List.getElem?_toArray, List.getElem?_cons_zero, List.getElem?_cons_succ, beq_self_eq_true, selV]
      refine mk_zero (R := rI .i64) (A := fun _ => False) (m := 80) (x := 0) ⟨rfl, by decide⟩ rfl (by omega) (by omega) (by omega) fun mv H11 hmv g11 s11 => ?_
      have hmv := hmv.mono (A' := fun _ => False) fun y hy _ => hy.1
      rw [← metL_zero (p := permL told)] at hmv
      refine loop_up (2 * told.length) (fun k s H' => G H10 H' ∧ Ow (rI .i64) H' (H10.size + 1) (fun _ => False) mv (metL (permL told) k) ∧ s = [[.int .i64 (lastR told k)], [.int .i64 (k : Int)]]) ⟨g11, hmv, rfl⟩ ?_
      rintro k s H12 K2 hk ⟨g12, hmv, rfl⟩ hK2
      have g912 := g9.trans g12
      refine (hx.g g912).getS hgp fun p hp => hp.len ?_
      rw [k1]
      try simp only [sv_cons, sv_cons1, sc_cons, sc_cons1, asB_bool, ifB_true, ifB_false, un_not, bin_lss, bin_leq, bin_gtr, bin_geq, bin_eql, bin_neq, bin_add, bin_sub, bin_mul, ok_int, ok_bool, ok_slice, ok_str, ok_ptr, ok_map, ok_func, ok_iface, ok_nil, List.all_cons, List.all_nil, Bool.and_true, Bool.true_and, seg, setSeg, List.drop_succ_cons, List.drop_zero, List.take_succ_cons, List.take_zero, List.cons_append, List.nil_append, List.append_nil, List.length_cons, List.length_nil, List.drop_nil, List.size_toArray, Nat.reduceAdd, Nat.reduceLeDiff, Nat.reduceBEq, Nat.zero_add, Nat.le_refl, decide_true, mkV, List.headD_cons, cellsV, w_fldV, w_ext, w_fldP, List.getElem?_toArray, List.getElem?_cons_zero, List.getElem?_cons_succ, beq_self_eq_true, selV]
      refine ifD_of (fun h2 => ?_) (fun h2 => ?_)
      · have hklt : k < (permL told).length := by omega
        have hgk : (permL told)[k]? = some (permL told)[k] := List.getElem?_eq_getElem hklt
        have hr := (k3 _).1 (List.getElem_mem hklt)
        obtain ⟨n, hn'⟩ : ∃ n : Nat, (permL told)[k] = (n : Int) := ⟨(permL told)[k].toNat, by omega⟩
        rw [hn'] at hgk hr
        have hn80 : n < 80 := by omega
        have hnm : ¬ (n : Int) ∈ (permL told).take k := fun hmem => by
          obtain ⟨j, hj, hje⟩ := List.getElem_of_mem hmem
          rw [List.length_take] at hj
          rw [List.getElem_take] at hje
          exact List.pairwise_iff_getElem.1 k2 j k (by omega) hklt (by omega) (by rw [hje, hn'])
        have hmg := metL_get (p := permL told) (i := k) hn80
        rw [if_neg hnm] at hmg
        refine (hx.g g912).getS hgp fun p2 hp2 => hp2.getI hgk fun _ => ?_
        have hrd : Sl (rI .i64) H12 (fun _ => True) mv (metL (permL told) k) := hmv.slF fun _ _ => trivial
        have hkr : (k : Int).tmod 2 = ((k % 2 : Nat) : Int) := by rw [Int.tmod_eq_emod_of_nonneg (by omega)]; omega
        have hkq : (k : Int).tdiv 2 = ((k / 2 : Nat) : Int) := by rw [Int.tdiv_eq_ediv_of_nonneg (by omega)]; omega
        refine join_of (fun s H' => H' = H12 ∧ s = [[.bool false]]) (fun K3 hK3 => ?_) ?_
        · try simp only [sv_cons, sv_cons1, sc_cons, sc_cons1, asB_bool, ifB_true, ifB_false, un_not, bin_lss, bin_leq, bin_gtr, bin_geq, bin_eql, bin_neq, bin_add, bin_sub, bin_mul, ok_int, ok_bool, ok_slice, ok_str, ok_ptr, ok_map, ok_func, ok_iface, ok_nil, List.all_cons, List.all_nil, Bool.and_true, Bool.true_and, seg, setSeg, List.drop_succ_cons, List.drop_zero, List.take_succ_cons, List.take_zero, List.cons_append, List.nil_append, List.append_nil, List.length_cons, List.length_nil, List.drop_nil, List.size_toArray, Nat.reduceAdd, Nat.reduceLeDiff, Nat.reduceBEq, Nat.zero_add, Nat.le_refl, decide_true, mkV, List.headD_cons, cellsV, w_fldV, w_ext, w_fldP, List.getElem?_toArray, List.getElem?_cons_zero, List.getElem?_cons_succ, beq_self_eq_true, selV]
          refine asD_of (fun h => by omega) (fun _ => ?_)
          refine hv.len ?_
          try simp only [sv_cons, sv_cons1, sc_cons, sc_cons1, asB_bool, ifB_true, ifB_false, un_not, bin_lss, bin_leq, bin_gtr, bin_geq, bin_eql, bin_neq, bin_add, bin_sub, bin_mul, ok_int, ok_bool, ok_slice, ok_str, ok_ptr, ok_map, ok_func, ok_iface, ok_nil, List.all_cons, List.all_nil, Bool.and_true, Bool.true_and, seg, setSeg, List.drop_succ_cons, List.drop_zero, List.take_succ_cons, List.take_zero, List.cons_append, List.nil_append, List.append_nil, List.length_cons, List.length_nil, List.drop_nil, List.size_toArray, Nat.reduceAdd, Nat.reduceLeDiff, Nat.reduceBEq, Nat.zero_add, Nat.le_refl, decide_true, mkV, List.headD_cons, cellsV, w_fldV, w_ext, w_fldP, List.getElem?_toArray, List.getElem?_cons_zero, List.getElem?_cons_succ, beq_self_eq_true, selV]
          rw [wrap_i64 (x := 2 * (l.length : Int)) (by unfold i64; omega)]
          refine asD_of (fun h => by omega) (fun _ => ?_)
          refine hrd.getI hmg fun _ => ?_
          try simp only [sv_cons, sv_cons1, sc_cons, sc_cons1, asB_bool, ifB_true, ifB_false, un_not, bin_lss, bin_leq, bin_gtr, bin_geq, bin_eql, bin_neq, bin_add, bin_sub, bin_mul, ok_int, ok_bool, ok_slice, ok_str, ok_ptr, ok_map, ok_func, ok_iface, ok_nil, List.all_cons, List.all_nil, Bool.and_true, Bool.true_and, seg, setSeg, List.drop_succ_cons, List.drop_zero, List.take_succ_cons, List.take_zero, List.cons_append, List.nil_append, List.append_nil, List.length_cons, List.length_nil, List.drop_nil, List.size_toArray, Nat.reduceAdd, Nat.reduceLeDiff, Nat.reduceBEq, Nat.zero_add, Nat.le_refl, decide_true, mkV, List.headD_cons, cellsV, w_fldV, w_ext, w_fldP, List.getElem?_toArray, List.getElem?_cons_zero, List.getElem?_cons_succ, beq_self_eq_true, selV]
          refine w_rem (by omega) ?_
          rw [hkr]
          try simp only [sv_cons, sv_cons1, sc_cons, sc_cons1, asB_bool, ifB_true, ifB_false, un_not, bin_lss, bin_leq, bin_gtr, bin_geq, bin_eql, bin_neq, bin_add, bin_sub, bin_mul, ok_int, ok_bool, ok_slice, ok_str, ok_ptr, ok_map, ok_func, ok_iface, ok_nil, List.all_cons, List.all_nil, Bool.and_true, Bool.true_and, seg, setSeg, List.drop_succ_cons, List.drop_zero, List.take_succ_cons, List.take_zero, List.cons_append, List.nil_append, List.append_nil, List.length_cons, List.length_nil, List.drop_nil, List.size_toArray, Nat.reduceAdd, Nat.reduceLeDiff, Nat.reduceBEq, Nat.zero_add, Nat.le_refl, decide_true, mkV, List.headD_cons, cellsV, w_fldV, w_ext, w_fldP, List.getElem?_toArray, List.getElem?_cons_zero, List.getElem?_cons_succ, beq_self_eq_true, selV]
          refine ifD_of (fun hev => ?_) (fun hod => ?_)
          · obtain ⟨t, ht⟩ : ∃ t, k = 2 * t := ⟨k / 2, by omega⟩
            have hta : told[t]? = some told[t] := List.getElem?_eq_getElem (by omega)
            have := weave_even (bs := restL told) hrl.symm hta
            rw [← ht] at this
            have e1 : told[t] = (n : Int) := by
              have h' : (permL told)[k]? = some told[t] := this
              rw [hgk] at h'; exact (Option.some.inj h').symm
            refine (ha.g g912).getS hgc fun tv htv => ?_
            refine w_quo (by omega) ?_
            rw [hkq, wrap_i64 (by unfold i64; omega), show k / 2 = t by omega]
            refine htv.getI hta fun _ => ?_
            rw [e1]
            refine w_neI' rfl ?_
            refine w_rem (by omega) ?_
            rw [hkr]
            try simp only [sv_cons, sv_cons1, sc_cons, sc_cons1, asB_bool, ifB_true, ifB_false, un_not, bin_lss, bin_leq, bin_gtr, bin_geq, bin_eql, bin_neq, bin_add, bin_sub, bin_mul, ok_int, ok_bool, ok_slice, ok_str, ok_ptr, ok_map, ok_func, ok_iface, ok_nil, List.all_cons, List.all_nil, Bool.and_true, Bool.true_and, seg, setSeg, List.drop_succ_cons, List.drop_zero, List.take_succ_cons, List.take_zero, List.cons_append, List.nil_append, List.append_nil, List.length_cons, List.length_nil, List.drop_nil, List.size_toArray, Nat.reduceAdd, Nat.reduceLeDiff, Nat.reduceBEq, Nat.zero_add, Nat.le_refl, decide_true, mkV, List.headD_cons, cellsV, w_fldV, w_ext, w_fldP, List.getElem?_toArray, List.getElem?_cons_zero, List.getElem?_cons_succ, beq_self_eq_true, selV]
            refine ifD_of (fun h => by omega) (fun _ => hK3 _ _ ⟨rfl, rfl⟩)
          · obtain ⟨t, ht⟩ : ∃ t, k = 2 * t + 1 := ⟨k / 2, by omega⟩
            have htb : (restL told)[t]? = some (restL told)[t] := List.getElem?_eq_getElem (by omega)
            have := @weave_odd told (restL told) t _ hrl.symm htb
            rw [← ht] at this
            have e1 : (restL told)[t] = (n : Int) := by
              have h' : (permL told)[k]? = some (restL told)[t] := this
              rw [hgk] at h'; exact (Option.some.inj h').symm
            rw [e1] at htb
            have hlast := lastR_lt ht htb
            refine w_rem (by omega) ?_
            rw [hkr]
            try simp only [sv_cons, sv_cons1, sc_cons, sc_cons1, asB_bool, ifB_true, ifB_false, un_not, bin_lss, bin_leq, bin_gtr, bin_geq, bin_eql, bin_neq, bin_add, bin_sub, bin_mul, ok_int, ok_bool, ok_slice, ok_str, ok_ptr, ok_map, ok_func, ok_iface, ok_nil, List.all_cons, List.all_nil, Bool.and_true, Bool.true_and, seg, setSeg, List.drop_succ_cons, List.drop_zero, List.take_succ_cons, List.take_zero, List.cons_append, List.nil_append, List.append_nil, List.length_cons, List.length_nil, List.drop_nil, List.size_toArray, Nat.reduceAdd, Nat.reduceLeDiff, Nat.reduceBEq, Nat.zero_add, Nat.le_refl, decide_true, mkV, List.headD_cons, cellsV, w_fldV, w_ext, w_fldP, List.getElem?_toArray, List.getElem?_cons_zero, List.getElem?_cons_succ, beq_self_eq_true, selV]
            refine ifD_of (fun _ => hK3 _ _ ⟨rfl, (jb_f (by omega)).symm⟩) (fun h => by omega)
        rintro s H13 ⟨rfl, rfl⟩
        try simp only [sv_cons, sv_cons1, sc_cons, sc_cons1, asB_bool, ifB_true, ifB_false, un_not, bin_lss, bin_leq, bin_gtr, bin_geq, bin_eql, bin_neq, bin_add, bin_sub, bin_mul, ok_int, ok_bool, ok_slice, ok_str, ok_ptr, ok_map, ok_func, ok_iface, ok_nil, List.all_cons, List.all_nil, Bool.and_true, Bool.true_and, seg, setSeg, List.drop_succ_cons, List.drop_zero, List.take_succ_cons, List.take_zero, List.cons_append, List.nil_append, List.append_nil, List.length_cons, List.length_nil, List.drop_nil, List.size_toArray, Nat.reduceAdd, Nat.reduceLeDiff, Nat.reduceBEq, Nat.zero_add, Nat.le_refl, decide_true, mkV, List.headD_cons, cellsV, w_fldV, w_ext, w_fldP, List.getElem?_toArray, List.getElem?_cons_zero, List.getElem?_cons_succ, beq_self_eq_true, selV]
        refine hrd.getI hmg fun _ => ?_
        try simp only [sv_cons, sv_cons1, sc_cons, sc_cons1, asB_bool, ifB_true, ifB_false, un_not, bin_lss, bin_leq, bin_gtr, bin_geq, bin_eql, bin_neq, bin_add, bin_sub, bin_mul, ok_int, ok_bool, ok_slice, ok_str, ok_ptr, ok_map, ok_func, ok_iface, ok_nil, List.all_cons, List.all_nil, Bool.and_true, Bool.true_and, seg, setSeg, List.drop_succ_cons, List.drop_zero, List.take_succ_cons, List.take_zero, List.cons_append, List.nil_append, List.append_nil, List.length_cons, List.length_nil, List.drop_nil, List.size_toArray, Nat.reduceAdd, Nat.reduceLeDiff, Nat.reduceBEq, Nat.zero_add, Nat.le_refl, decide_true, mkV, List.headD_cons, cellsV, w_fldV, w_ext, w_fldP, List.getElem?_toArray, List.getElem?_cons_zero, List.getElem?_cons_succ, beq_self_eq_true, selV]
        rw [wrap_i64 (x := (0 : Int) + 1) (by unfold i64; omega), show (0 : Int) + 1 = 1 from rfl]
        refine hmv.put (x := 1) (vrep_I (by decide)) rfl (fun _ => rfl) (by rw [metL_len]; omega) (fun y hy _ => hy.elim) fun H14 hmv' f14 s14 => ?_
        rw [metL_set hn80 hgk] at hmv'
        refine w_rem (by omega) ?_
        rw [hkr]
        try simp only [sv_cons, sv_cons1, sc_cons, sc_cons1, asB_bool, ifB_true, ifB_false, un_not, bin_lss, bin_leq, bin_gtr, bin_geq, bin_eql, bin_neq, bin_add, bin_sub, bin_mul, ok_int, ok_bool, ok_slice, ok_str, ok_ptr, ok_map, ok_func, ok_iface, ok_nil, List.all_cons, List.all_nil, Bool.and_true, Bool.true_and, seg, setSeg, List.drop_succ_cons, List.drop_zero, List.take_succ_cons, List.take_zero, List.cons_append, List.nil_append, List.append_nil, List.length_cons, List.length_nil, List.drop_nil, List.size_toArray, Nat.reduceAdd, Nat.reduceLeDiff, Nat.reduceBEq, Nat.zero_add, Nat.le_refl, decide_true, mkV, List.headD_cons, cellsV, w_fldV, w_ext, w_fldP, List.getElem?_toArray, List.getElem?_cons_zero, List.getElem?_cons_succ, beq_self_eq_true, selV]
        refine join_of (fun s H' => H' = H14 ∧ s = [[.int .i64 (lastR told (k + 1))]]) (fun K3 hK3 => ?_) ?_
        · refine ifD_of (fun hod => ?_) (fun hev => ?_)
          · obtain ⟨t, ht⟩ : ∃ t, k = 2 * t + 1 := ⟨k / 2, by omega⟩
            have htb : (restL told)[t]? = some (restL told)[t] := List.getElem?_eq_getElem (by omega)
            have := @weave_odd told (restL told) t _ hrl.symm htb
            rw [← ht] at this
            have h' : (permL told)[k]? = some (restL told)[t] := this
            rw [hgk] at h'
            rw [← Option.some.inj h'] at htb
            exact hK3 _ _ ⟨rfl, by rw [lastR_odd ht htb]⟩
          · exact hK3 _ _ ⟨rfl, by rw [lastR_even (t := k / 2) (by omega)]⟩
        rintro s H15 ⟨rfl, rfl⟩
        try simp only [sv_cons, sv_cons1, sc_cons, sc_cons1, asB_bool, ifB_true, ifB_false, un_not, bin_lss, bin_leq, bin_gtr, bin_geq, bin_eql, bin_neq, bin_add, bin_sub, bin_mul, ok_int, ok_bool, ok_slice, ok_str, ok_ptr, ok_map, ok_func, ok_iface, ok_nil, List.all_cons, List.all_nil, Bool.and_true, Bool.true_and, seg, setSeg, List.drop_succ_cons, List.drop_zero, List.take_succ_cons, List.take_zero, List.cons_append, List.nil_append, List.append_nil, List.length_cons, List.length_nil, List.drop_nil, List.size_toArray, Nat.reduceAdd, Nat.reduceLeDiff, Nat.reduceBEq, Nat.zero_add, Nat.le_refl, decide_true, mkV, List.headD_cons, cellsV, w_fldV, w_ext, w_fldP, List.getElem?_toArray, List.getElem?_cons_zero, List.getElem?_cons_succ, beq_self_eq_true, selV]
        rw [wrap_i64 (by unfold i64; omega)]
        exact hK2 _ _ (by omega) ⟨g12.then f14 fun y hy => by omega, hmv', by simp⟩
      · try simp only [sv_cons, sv_cons1, sc_cons, sc_cons1, asB_bool, ifB_true, ifB_false, un_not, bin_lss, bin_leq, bin_gtr, bin_geq, bin_eql, bin_neq, bin_add, bin_sub, bin_mul, ok_int, ok_bool, ok_slice, ok_str, ok_ptr, ok_map, ok_func, ok_iface, ok_nil, List.all_cons, List.all_nil, Bool.and_true, Bool.true_and, seg, setSeg, List.drop_succ_cons, List.drop_zero, List.take_succ_cons, List.take_zero, List.cons_append, List.nil_append, List.append_nil, List.length_cons, List.length_nil, List.drop_nil, List.size_toArray, Nat.reduceAdd, Nat.reduceLeDiff, Nat.reduceBEq, Nat.zero_add, Nat.le_refl, decide_true, mkV, List.headD_cons, cellsV, w_fldV, w_ext, w_fldP, List.getElem?_toArray, List.getElem?_cons_zero, List.getElem?_cons_succ, beq_self_eq_true, selV]
        rw [wrap_i64 (by unfold i64; omega)]
        exact hK _ _ hlt ⟨g912, by simp⟩
    · rw [if_neg he] at ha hx
      rw [show decide (unitsE c l ≠ 0) = true from decide_eq_true he]
      try simp only [sv_cons, sv_cons1, sc_cons, sc_cons1, asB_bool, ifB_true, ifB_false, un_not, bin_lss, bin_leq, bin_gtr, bin_geq, bin_eql, bin_neq, bin_add, bin_sub, bin_mul, ok_int, ok_bool, ok_slice, ok_str, ok_ptr, ok_map, ok_func, ok_iface, ok_nil, List.all_cons, List.all_nil, Bool.and_true, Bool.true_and, seg, setSeg, List.drop_succ_cons, List.drop_zero, List.take_succ_cons, List.take_zero, List.cons_append, List.nil_append, List.append_nil, List.length_cons, List.length_nil, List.drop_nil, List.size_toArray, Nat.reduceAdd, Nat.reduceLeDiff, Nat.reduceBEq, Nat.zero_add, Nat.le_refl, decide_true, mkV, List.headD_cons, cellsV, w_fldV, w_ext, w_fldP, List.getElem?_toArray, List.getElem?_cons_zero, List.getElem?_cons_succ, beq_self_eq_true, selV]
      refine join_of (fun s H' => H' = H6 ∧ s = [[.bool true]]) (fun K hK => hK _ _ ⟨rfl, rfl⟩) ?_
      rintro s H7 ⟨rfl, rfl⟩
      try simp only [sv_cons, sv_cons1, sc_cons, sc_cons1, asB_bool, ifB_true, ifB_false, un_not, bin_lss, bin_leq, bin_gtr, bin_geq, bin_eql, bin_neq, bin_add, bin_sub, bin_mul, ok_int, ok_bool, ok_slice, ok_str, ok_ptr, ok_map, ok_func, ok_iface, ok_nil, List.all_cons, List.all_nil, Bool.and_true, Bool.true_and, seg, setSeg, List.drop_succ_cons, List.drop_zero, List.take_succ_cons, List.take_zero, List.cons_append, List.nil_append, List.append_nil, List.length_cons, List.length_nil, List.drop_nil, List.size_toArray, Nat.reduceAdd, Nat.reduceLeDiff, Nat.reduceBEq, Nat.zero_add, Nat.le_refl, decide_true, mkV, List.headD_cons, cellsV, w_fldV, w_ext, w_fldP, List.getElem?_toArray, List.getElem?_cons_zero, List.getElem?_cons_succ, beq_self_eq_true, selV]
      refine join_of (fun s H' => H' = H7 ∧ s = [[.bool true]]) (fun K hK => ?_) ?_
      · try simp only [sv_cons, sv_cons1, sc_cons, sc_cons1, asB_bool, ifB_true, ifB_false, un_not, bin_lss, bin_leq, bin_gtr, bin_geq, bin_eql, bin_neq, bin_add, bin_sub, bin_mul, ok_int, ok_bool, ok_slice, ok_str, ok_ptr, ok_map, ok_func, ok_iface, ok_nil, List.all_cons, List.all_nil, Bool.and_true, Bool.true_and, seg, setSeg, List.drop_succ_cons, List.drop_zero, List.take_succ_cons, List.take_zero, List.cons_append, List.nil_append, List.append_nil, List.length_cons, List.length_nil, List.drop_nil, List.size_toArray, Nat.reduceAdd, Nat.reduceLeDiff, Nat.reduceBEq, Nat.zero_add, Nat.le_refl, decide_true, mkV, List.headD_cons, cellsV, w_fldV, w_ext, w_fldP, List.getElem?_toArray, List.getElem?_cons_zero, List.getElem?_cons_succ, beq_self_eq_true, selV]
        refine ha.len (w_eqJ rfl ?_)
        exact hx.len (w_eqJ rfl (hK _ _ ⟨rfl, rfl⟩))
      rintro s H8 ⟨rfl, rfl⟩
      exact hQ _ g

end Go.Proofs.Ytikebhnnmnlgaaa
