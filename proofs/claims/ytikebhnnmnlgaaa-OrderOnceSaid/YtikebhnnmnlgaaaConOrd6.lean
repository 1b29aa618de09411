/- Contracts: cells put into an order, and back. -/
import Derived.Test.YtikebhnnmnlgaaaConOrd5
set_option linter.unusedVariables false
set_option linter.unusedSimpArgs false
namespace Go.Md

abbrev okP (p : List Int) : Prop := p.Nodup ∧ ∀ x ∈ p, 0 ≤ x ∧ x < (p.length : Int)
def ordE (p c : List Int) : Int := if p.length > 1024 then 4 else if c.length ≠ p.length then 2 else if okP p then 0 else 2
def applyM (p c : List Int) : List Int := if ordE p c = 0 then p.map fun x => c.getD x.toNat 0 else []
def undoN (p c : List Int) : Nat → List Int
  | 0 => List.replicate p.length 0
  | i + 1 => (undoN p c i).set (p.getD i 0).toNat (c.getD i 0)
def undoM (p c : List Int) : List Int := if ordE p c = 0 then undoN p c p.length else []

theorem ordE_zero {p c : List Int} (h : ordE p c = 0) : p.length ≤ 1024 ∧ c.length = p.length ∧ okP p := by
  unfold ordE at h
  split at h
  · cases h
  · split at h
    · cases h
    · split at h
      · rename_i h1 h2 h3; exact ⟨by omega, by omega, h3⟩
      · cases h
theorem undoN_len {p c : List Int} : ∀ i, (undoN p c i).length = p.length
  | 0 => by simp [undoN]
  | i + 1 => by simp [undoN, undoN_len i]
theorem applyM_len {p c : List Int} (h : ordE p c = 0) : (applyM p c).length = p.length := by unfold applyM; rw [if_pos h]; simp
theorem undoM_len {p c : List Int} (h : ordE p c = 0) : (undoM p c).length = p.length := by unfold undoM; rw [if_pos h, undoN_len]
theorem ordE_len {p c c' : List Int} (h : ordE p c = 0) (hl : c'.length = p.length) : ordE p c' = 0 := by
  obtain ⟨h1, h2, h3⟩ := ordE_zero h
  unfold ordE
  rw [if_neg (by omega), if_neg (by omega), if_pos h3]

theorem undoN_get {p c : List Int} (h : okP p) : ∀ (i j : Nat) (x : Int), i ≤ p.length → j < i → p[j]? = some x → (undoN p c i)[x.toNat]? = some (c.getD j 0)
  | 0, j, x, _, h, _ => by omega
  | i + 1, j, x, hi, hj, hx => by
    have hr := h.2 x (List.mem_of_getElem? hx)
    show ((undoN p c i).set (p.getD i 0).toNat (c.getD i 0))[x.toNat]? = _
    have hpi : p.getD i 0 = p[i] := by rw [List.getD_eq_getElem?_getD, List.getElem?_eq_getElem (by omega)]; rfl
    by_cases hji : j = i
    · subst hji
      rw [List.getElem?_eq_getElem (by omega)] at hx
      have hx := Option.some.inj hx
      rw [hpi, hx, List.getElem?_set_self (by rw [undoN_len]; omega)]
    · have hjl : j < p.length := by omega
      have hne := List.pairwise_iff_getElem.1 h.1 j i hjl (by omega) (by omega)
      have hxe : p[j] = x := by rw [List.getElem?_eq_getElem hjl] at hx; exact Option.some.inj hx
      have hr' := h.2 p[i] (List.getElem_mem _)
      rw [hxe] at hne
      rw [hpi, List.getElem?_set_ne (by omega)]
      exact undoN_get h i j x (by omega) (by omega) hx

theorem okP_onto {p : List Int} (h : okP p) {k : Nat} (hk : k < p.length) : ∃ j, j < p.length ∧ p[j]? = some (k : Int) := by
  have h1 := countP_mem p.length p (fun x hx => h.2 x hx) h.1
  have h2 : (List.range p.length).countP (fun k : Nat => p.contains (k : Int)) = (List.range p.length).length := by rw [h1, List.length_range]
  have h3 := List.countP_eq_length.1 h2 k (List.mem_range.2 hk)
  rw [List.contains_iff_mem] at h3
  obtain ⟨j, hj, he⟩ := List.getElem_of_mem h3
  exact ⟨j, hj, by rw [List.getElem?_eq_getElem hj, he]⟩

/-- Put back, and put. -/
theorem undo_apply {p c : List Int} (h : ordE p c = 0) : undoM p (applyM p c) = c := by
  obtain ⟨h1, h2, h3⟩ := ordE_zero h
  have h' := ordE_len h (applyM_len h)
  unfold undoM
  rw [if_pos h']
  apply List.ext_getElem?
  intro k
  by_cases hk : k < p.length
  · obtain ⟨j, hj, hp⟩ := okP_onto h3 hk
    have := undoN_get (c := applyM p c) h3 p.length j k (Nat.le_refl _) hj hp
    rw [Int.toNat_natCast] at this
    rw [this]
    unfold applyM
    rw [if_pos h, List.getD_eq_getElem?_getD, List.getElem?_map, hp]
    simp only [Option.map_some, Option.getD_some, Int.toNat_natCast]
    rw [List.getD_eq_getElem?_getD, List.getElem?_eq_getElem (by omega)]; rfl
  · rw [List.getElem?_eq_none (by rw [undoN_len]; omega), List.getElem?_eq_none (by omega)]
theorem apply_undo {p c : List Int} (h : ordE p c = 0) : applyM p (undoM p c) = c := by
  obtain ⟨h1, h2, h3⟩ := ordE_zero h
  have h' := ordE_len h (undoM_len h)
  unfold applyM
  rw [if_pos h']
  apply List.ext_getElem?
  intro k
  rw [List.getElem?_map]
  by_cases hk : k < p.length
  · rw [List.getElem?_eq_getElem hk]
    simp only [Option.map_some]
    have := undoN_get (c := c) h3 p.length k p[k] (Nat.le_refl _) hk (List.getElem?_eq_getElem hk)
    unfold undoM
    rw [if_pos h, List.getD_eq_getElem?_getD, this, List.getD_eq_getElem?_getD, List.getElem?_eq_getElem (by omega)]; rfl
  · rw [List.getElem?_eq_none (by omega), List.getElem?_eq_none (by omega)]; rfl

def metF (p : List Int) (i : Nat) : Int → Option Value := fun k => if k ∈ p.take i then some (.int .i64 1) else none
theorem metF_put {p : List Int} {i : Nat} {x : Int} (hx : p[i]? = some x) : (fun y => if y = x then some (.int .i64 1) else metF p i y) = metF p (i + 1) := by
  funext y
  unfold metF
  rw [List.take_add_one, hx]
  simp only [Option.toList_some, List.mem_append, List.mem_singleton]
  by_cases h : y = x
  · rw [if_pos h, if_pos (.inr h)]
  · rw [if_neg h]
    by_cases h2 : y ∈ p.take i
    · rw [if_pos h2, if_pos (.inl h2)]
    · rw [if_neg h2, if_neg (fun h' => h'.elim h2 h)]
end Go.Md

namespace Go.Proofs.Ytikebhnnmnlgaaa
open Go.Ab Go.Md
set_option maxRecDepth 20000

variable {H : Heap} {Q : Value → Heap → Prop} {A B C : Nat → Prop}

theorem c_order_asked {a b : Value} {p : List Int} {c : List Int} (ha : Sl (rI .i64) H A a p) (hb : Sl (rI .u32) H B b c) (hl : p.length ≤ 1000000000) (hQ : ∀ H', G H H' → Q (.int .i64 (ordE p c)) H') :
    callV Try.prog (fnV fn_order_asked) [a, b] H Q := by
  apply S_order_asked_of
  unfold S_order_asked
  have ha := ha.old
  unfold ordE at hQ
  refine ha.len ?_
  try simp only [sv_cons, sv_cons1, sc_cons, sc_cons1, asB_bool, ifB_true, ifB_false, un_not, bin_lss, bin_leq, bin_gtr, bin_geq, bin_eql, bin_neq, bin_add, bin_sub, bin_mul, ok_int, ok_bool, ok_slice, ok_str, ok_ptr, ok_map, ok_func, ok_iface, ok_nil, List.all_cons, List.all_nil, Bool.and_true, Bool.true_and, seg, setSeg, List.drop_succ_cons, List.drop_zero, List.take_succ_cons, List.take_zero, List.cons_append, List.nil_append, List.append_nil, List.length_cons, List.length_nil, List.drop_nil, List.size_toArray, Nat.reduceAdd, Nat.reduceLeDiff, Nat.reduceBEq, Nat.zero_add, Nat.le_refl, decide_true, mkV, List.headD_cons, cellsV, w_fldV, w_ext, w_fldP, List.getElem?_toArray, List.getElem?_cons_zero, List.getElem?_cons_succ, beq_self_eq_true, selV]
  refine ifD_of (fun h => ?_) (fun h => ?_)
  · rw [if_pos (by omega)] at hQ; exact hQ _ (G.fr (Fr.refl _ _))
  rw [if_neg (by omega)] at hQ
  refine hb.len (ha.len ?_)
  try simp only [sv_cons, sv_cons1, sc_cons, sc_cons1, asB_bool, ifB_true, ifB_false, un_not, bin_lss, bin_leq, bin_gtr, bin_geq, bin_eql, bin_neq, bin_add, bin_sub, bin_mul, ok_int, ok_bool, ok_slice, ok_str, ok_ptr, ok_map, ok_func, ok_iface, ok_nil, List.all_cons, List.all_nil, Bool.and_true, Bool.true_and, seg, setSeg, List.drop_succ_cons, List.drop_zero, List.take_succ_cons, List.take_zero, List.cons_append, List.nil_append, List.append_nil, List.length_cons, List.length_nil, List.drop_nil, List.size_toArray, Nat.reduceAdd, Nat.reduceLeDiff, Nat.reduceBEq, Nat.zero_add, Nat.le_refl, decide_true, mkV, List.headD_cons, cellsV, w_fldV, w_ext, w_fldP, List.getElem?_toArray, List.getElem?_cons_zero, List.getElem?_cons_succ, beq_self_eq_true, selV]
  refine ifD_of (fun h => ?_) (fun h => ?_)
  · rw [if_pos (by omega)] at hQ; exact hQ _ (G.fr (Fr.refl _ _))
  rw [if_neg (by omega)] at hQ
  refine mkM_mp (q := .i64) fun H1 hm g1 s1 => ha.len ?_
  have hm0 : Mp H1 H.size .i64 (metF p 0) := by
    have : metF p 0 = fun _ => none := by funext k; unfold metF; simp
    rw [this]; exact hm
  have bad : ∀ H', ¬ okP p → G H H' → Q (.int .i64 2) H' := fun H' hn g => by
    have := hQ H' g; rw [if_neg hn] at this; exact this
  refine loop_up p.length (fun i s H' => G H H' ∧ s = [[.int .i64 (i : Int)]] ∧ Mp H' H.size .i64 (metF p i) ∧ (p.take i).Nodup ∧ ∀ x ∈ p.take i, 0 ≤ x ∧ x < (p.length : Int)) ⟨g1, rfl, hm0, by simp, by simp⟩ ?_
  rintro i s H2 K hi ⟨g2, rfl, hm, hnd, hin⟩ hK
  try simp only [sv_cons, sv_cons1, sc_cons, sc_cons1, asB_bool, ifB_true, ifB_false, un_not, bin_lss, bin_leq, bin_gtr, bin_geq, bin_eql, bin_neq, bin_add, bin_sub, bin_mul, ok_int, ok_bool, ok_slice, ok_str, ok_ptr, ok_map, ok_func, ok_iface, ok_nil, List.all_cons, List.all_nil, Bool.and_true, Bool.true_and, seg, setSeg, List.drop_succ_cons, List.drop_zero, List.take_succ_cons, List.take_zero, List.cons_append, List.nil_append, List.append_nil, List.length_cons, List.length_nil, List.drop_nil, List.size_toArray, Nat.reduceAdd, Nat.reduceLeDiff, Nat.reduceBEq, Nat.zero_add, Nat.le_refl, decide_true, mkV, List.headD_cons, cellsV, w_fldV, w_ext, w_fldP, List.getElem?_toArray, List.getElem?_cons_zero, List.getElem?_cons_succ, beq_self_eq_true, selV]
  refine ifD_of (fun h1 => ?_) (fun h1 => ?_)
  · have hlt : i < p.length := by omega
    have hx : p[i]? = some p[i] := List.getElem?_eq_getElem hlt
    refine (ha.g g2).getI hx fun _ => ?_
    refine hm.get ?_
    by_cases hmem : p[i] ∈ p.take i
    · have hf : metF p i p[i] = some (.int .i64 1) := by unfold metF; rw [if_pos hmem]
      have hno : ¬ okP p := fun hk => by
        obtain ⟨j, hj, he⟩ := List.getElem_of_mem hmem
        rw [List.length_take] at hj
        rw [List.getElem_take] at he
        exact List.pairwise_iff_getElem.1 hk.1 j i (by omega) hlt (by omega) he
      rw [hf]
      try simp only [sv_cons, sv_cons1, sc_cons, sc_cons1, asB_bool, ifB_true, ifB_false, un_not, bin_lss, bin_leq, bin_gtr, bin_geq, bin_eql, bin_neq, bin_add, bin_sub, bin_mul, ok_int, ok_bool, ok_slice, ok_str, ok_ptr, ok_map, ok_func, ok_iface, ok_nil, List.all_cons, List.all_nil, Bool.and_true, Bool.true_and, seg, setSeg, List.drop_succ_cons, List.drop_zero, List.take_succ_cons, List.take_zero, List.cons_append, List.nil_append, List.append_nil, List.length_cons, List.length_nil, List.drop_nil, List.size_toArray, Nat.reduceAdd, Nat.reduceLeDiff, Nat.reduceBEq, Nat.zero_add, Nat.le_refl, decide_true, mkV, List.headD_cons, cellsV, w_fldV, w_ext, w_fldP, List.getElem?_toArray, List.getElem?_cons_zero, List.getElem?_cons_succ, beq_self_eq_true, selV, Option.getD_some]
      rw [wrap_i64 (x := (1 : Int) + 1) (by unfold i64; omega)]
      refine hm.put (x := .int .i64 (1 + 1)) fun H3 hm3 f3 s3 => ?_
      have g3 : G H H3 := g2.then f3 fun y hy => by omega
      refine join_of (fun s H' => H' = H3 ∧ s = [[.bool true]]) (fun K' hK' => ?_) ?_
      · refine hm3.get ?_
        try simp only [sv_cons, sv_cons1, sc_cons, sc_cons1, asB_bool, ifB_true, ifB_false, un_not, bin_lss, bin_leq, bin_gtr, bin_geq, bin_eql, bin_neq, bin_add, bin_sub, bin_mul, ok_int, ok_bool, ok_slice, ok_str, ok_ptr, ok_map, ok_func, ok_iface, ok_nil, List.all_cons, List.all_nil, Bool.and_true, Bool.true_and, seg, setSeg, List.drop_succ_cons, List.drop_zero, List.take_succ_cons, List.take_zero, List.cons_append, List.nil_append, List.append_nil, List.length_cons, List.length_nil, List.drop_nil, List.size_toArray, Nat.reduceAdd, Nat.reduceLeDiff, Nat.reduceBEq, Nat.zero_add, Nat.le_refl, decide_true, mkV, List.headD_cons, cellsV, w_fldV, w_ext, w_fldP, List.getElem?_toArray, List.getElem?_cons_zero, List.getElem?_cons_succ, beq_self_eq_true, selV, Option.getD_some, if_true]
        exact hK' _ _ ⟨rfl, rfl⟩
      rintro s H4 ⟨rfl, rfl⟩
      exact bad _ hno g3
    · have hf : metF p i p[i] = none := by unfold metF; rw [if_neg hmem]
      rw [hf]
      try simp only [sv_cons, sv_cons1, sc_cons, sc_cons1, asB_bool, ifB_true, ifB_false, un_not, bin_lss, bin_leq, bin_gtr, bin_geq, bin_eql, bin_neq, bin_add, bin_sub, bin_mul, ok_int, ok_bool, ok_slice, ok_str, ok_ptr, ok_map, ok_func, ok_iface, ok_nil, List.all_cons, List.all_nil, Bool.and_true, Bool.true_and, seg, setSeg, List.drop_succ_cons, List.drop_zero, List.take_succ_cons, List.take_zero, List.cons_append, List.nil_append, List.append_nil, List.length_cons, List.length_nil, List.drop_nil, List.size_toArray, Nat.reduceAdd, Nat.reduceLeDiff, Nat.reduceBEq, Nat.zero_add, Nat.le_refl, decide_true, mkV, List.headD_cons, cellsV, w_fldV, w_ext, w_fldP, List.getElem?_toArray, List.getElem?_cons_zero, List.getElem?_cons_succ, beq_self_eq_true, selV, Option.getD_none]
      rw [wrap_i64 (x := (0 : Int) + 1) (by unfold i64; omega), show (0 : Int) + 1 = 1 from rfl]
      refine hm.put (x := .int .i64 1) fun H3 hm3 f3 s3 => ?_
      have g3 : G H H3 := g2.then f3 fun y hy => by omega
      refine join_of (fun s H' => H' = H3 ∧ s = [[.bool (decide (p[i] < 0 ∨ p[i] ≥ (p.length : Int)))]]) (fun K' hK' => ?_) ?_
      · refine hm3.get ?_
        try simp only [sv_cons, sv_cons1, sc_cons, sc_cons1, asB_bool, ifB_true, ifB_false, un_not, bin_lss, bin_leq, bin_gtr, bin_geq, bin_eql, bin_neq, bin_add, bin_sub, bin_mul, ok_int, ok_bool, ok_slice, ok_str, ok_ptr, ok_map, ok_func, ok_iface, ok_nil, List.all_cons, List.all_nil, Bool.and_true, Bool.true_and, seg, setSeg, List.drop_succ_cons, List.drop_zero, List.take_succ_cons, List.take_zero, List.cons_append, List.nil_append, List.append_nil, List.length_cons, List.length_nil, List.drop_nil, List.size_toArray, Nat.reduceAdd, Nat.reduceLeDiff, Nat.reduceBEq, Nat.zero_add, Nat.le_refl, decide_true, mkV, List.headD_cons, cellsV, w_fldV, w_ext, w_fldP, List.getElem?_toArray, List.getElem?_cons_zero, List.getElem?_cons_succ, beq_self_eq_true, selV, Option.getD_some, if_true]
        refine ifD_of (fun h => hK' _ _ ⟨rfl, jb_t (.inl h)⟩) (fun h => ?_)
        refine ha.len ?_
        try simp only [sv_cons, sv_cons1, sc_cons, sc_cons1, asB_bool, ifB_true, ifB_false, un_not, bin_lss, bin_leq, bin_gtr, bin_geq, bin_eql, bin_neq, bin_add, bin_sub, bin_mul, ok_int, ok_bool, ok_slice, ok_str, ok_ptr, ok_map, ok_func, ok_iface, ok_nil, List.all_cons, List.all_nil, Bool.and_true, Bool.true_and, seg, setSeg, List.drop_succ_cons, List.drop_zero, List.take_succ_cons, List.take_zero, List.cons_append, List.nil_append, List.append_nil, List.length_cons, List.length_nil, List.drop_nil, List.size_toArray, Nat.reduceAdd, Nat.reduceLeDiff, Nat.reduceBEq, Nat.zero_add, Nat.le_refl, decide_true, mkV, List.headD_cons, cellsV, w_fldV, w_ext, w_fldP, List.getElem?_toArray, List.getElem?_cons_zero, List.getElem?_cons_succ, beq_self_eq_true, selV]
        exact hK' _ _ ⟨rfl, jb_d (by omega)⟩
      rintro s H4 ⟨rfl, rfl⟩
      try simp only [sv_cons, sv_cons1, sc_cons, sc_cons1, asB_bool, ifB_true, ifB_false, un_not, bin_lss, bin_leq, bin_gtr, bin_geq, bin_eql, bin_neq, bin_add, bin_sub, bin_mul, ok_int, ok_bool, ok_slice, ok_str, ok_ptr, ok_map, ok_func, ok_iface, ok_nil, List.all_cons, List.all_nil, Bool.and_true, Bool.true_and, seg, setSeg, List.drop_succ_cons, List.drop_zero, List.take_succ_cons, List.take_zero, List.cons_append, List.nil_append, List.append_nil, List.length_cons, List.length_nil, List.drop_nil, List.size_toArray, Nat.reduceAdd, Nat.reduceLeDiff, Nat.reduceBEq, Nat.zero_add, Nat.le_refl, decide_true, mkV, List.headD_cons, cellsV, w_fldV, w_ext, w_fldP, List.getElem?_toArray, List.getElem?_cons_zero, List.getElem?_cons_succ, beq_self_eq_true, selV]
      refine ifD_of (fun h => ?_) (fun h => ?_)
      · exact bad _ (fun hk => by have := hk.2 p[i] (List.getElem_mem hlt); omega) g3
      · rw [metF_put hx] at hm3
        rw [wrap_i64 (by unfold i64; omega)]
        refine hK _ _ hlt ⟨g3, by simp, hm3, ?_, fun x hx => ?_⟩
        · rw [List.take_succ_eq_append_getElem hlt, List.nodup_append]
          refine ⟨hnd, by simp, fun a ha b hb e => ?_⟩
          rw [List.mem_singleton] at hb
          subst e; subst hb; exact hmem ha
        · rw [List.take_succ_eq_append_getElem hlt, List.mem_append, List.mem_singleton] at hx
          rcases hx with hx | rfl
          · exact hin x hx
          · omega
  · rw [List.take_of_length_le (by omega)] at hnd hin
    rw [if_pos ⟨hnd, hin⟩] at hQ
    exact hQ _ g2

theorem c_order_each_cells {p : List Int} {a fv : Value} {f : Int → Int} (ha : Sl (rI .i64) H A a p) (hl : p.length ≤ 1024) (hw : ∀ x ∈ p, IntKind.u32.wrap (f x) = f x)
    (hf : ∀ (i : Nat) x H1 (K : Value → Heap → Prop), p[i]? = some x → G H H1 → K (.int .u32 (f x)) H1 → callV Try.prog fv [.int .i64 (i : Int), .int .i64 x] H1 K)
    (hQ : ∀ v H', Sl (rI .u32) H' (fun y => H.size ≤ y) v (p.map f) → G H H' → Q v H') : callV Try.prog (fnV fn_order_each_int_uint32) [a, fv] H Q := by
  apply S_order_each_int_uint32_of
  unfold S_order_each_int_uint32
  refine ha.len ?_
  refine loop_up p.length (fun i s H' => ∃ v, Bd (rI .u32) H H' v ((p.take i).map f) ∧ s = [[v], [.int .i64 (i : Int)]]) ⟨_, by simpa using Bd.nil _ (G.fr (Fr.refl _ H)), rfl⟩ ?_
  rintro i s H1 K hi ⟨v, hv, rfl⟩ hK
  try simp only [sv_cons, sv_cons1, sc_cons, sc_cons1, asB_bool, ifB_true, ifB_false, un_not, bin_lss, bin_leq, bin_gtr, bin_geq, bin_eql, bin_neq, bin_add, bin_sub, bin_mul, ok_int, ok_bool, ok_slice, ok_str, ok_ptr, ok_map, ok_func, ok_iface, ok_nil, List.all_cons, List.all_nil, Bool.and_true, Bool.true_and, seg, setSeg, List.drop_succ_cons, List.drop_zero, List.take_succ_cons, List.take_zero, List.cons_append, List.nil_append, List.append_nil, List.length_cons, List.length_nil, List.drop_nil, List.size_toArray, Nat.reduceAdd, Nat.reduceLeDiff, Nat.reduceBEq, Nat.zero_add, Nat.le_refl, decide_true, mkV, List.headD_cons, cellsV, w_fldV, w_ext, w_fldP, List.getElem?_toArray, List.getElem?_cons_zero, List.getElem?_cons_succ, beq_self_eq_true, selV]
  refine ifD_of (fun h1 => ?_) (fun h1 => ?_)
  · have hlt : i < p.length := by omega
    have hx := List.getElem?_eq_getElem hlt
    refine (ha.g hv.g).getI hx fun _ => hf i _ H1 _ hx hv.g ?_
    have lr : ((p.take i).map f).length = i := by rw [List.length_map, List.length_take]; omega
    have er : (p.take i).map f ++ [f p[i]] = (p.take (i + 1)).map f := by rw [List.take_succ_eq_append_getElem hlt, List.map_append]; rfl
    refine hv.push (G.fr (Fr.refl _ _)) (vrep_I (A := fun _ => False) (hw _ (List.getElem_mem hlt))) rfl (by omega) (fun _ => rfl) rfl rfl (fun y hy _ => hy.elim) (by rw [lr]; omega) (by rw [lr]; omega) fun w H2 hw => ?_
    try simp only [sv_cons, sv_cons1, sc_cons, sc_cons1, asB_bool, ifB_true, ifB_false, un_not, bin_lss, bin_leq, bin_gtr, bin_geq, bin_eql, bin_neq, bin_add, bin_sub, bin_mul, ok_int, ok_bool, ok_slice, ok_str, ok_ptr, ok_map, ok_func, ok_iface, ok_nil, List.all_cons, List.all_nil, Bool.and_true, Bool.true_and, seg, setSeg, List.drop_succ_cons, List.drop_zero, List.take_succ_cons, List.take_zero, List.cons_append, List.nil_append, List.append_nil, List.length_cons, List.length_nil, List.drop_nil, List.size_toArray, Nat.reduceAdd, Nat.reduceLeDiff, Nat.reduceBEq, Nat.zero_add, Nat.le_refl, decide_true, mkV, List.headD_cons, cellsV, w_fldV, w_ext, w_fldP, List.getElem?_toArray, List.getElem?_cons_zero, List.getElem?_cons_succ, beq_self_eq_true, selV]
    rw [wrap_i64 (by unfold i64; omega)]
    rw [er] at hw
    exact hK _ _ hlt ⟨w, hw, by simp⟩
  · have : i = p.length := by omega
    subst this
    rw [List.take_length] at hv
    exact hQ v H1 hv.sl hv.g

theorem c_order_Apply {a b : Value} {p : List Int} {c : List Int} (ha : Sl (rI .i64) H A a p) (hb : Sl (rI .u32) H B b c) (hl : p.length ≤ 1000000000) (hQ : ∀ v H', Sl (rI .u32) H' (fun y => H.size ≤ y) v (applyM p c) → G H H' → Q (tup2 v (.int .i64 (ordE p c))) H') :
    callV Try.prog (fnV fn_order_Apply) [a, b] H Q := by
  apply S_order_Apply_of
  unfold S_order_Apply
  have hok := hb.okcv
  try simp only [sv_cons, sv_cons1, sc_cons, sc_cons1, asB_bool, ifB_true, ifB_false, un_not, bin_lss, bin_leq, bin_gtr, bin_geq, bin_eql, bin_neq, bin_add, bin_sub, bin_mul, ok_int, ok_bool, ok_slice, ok_str, ok_ptr, ok_map, ok_func, ok_iface, ok_nil, List.all_cons, List.all_nil, Bool.and_true, Bool.true_and, seg, setSeg, List.drop_succ_cons, List.drop_zero, List.take_succ_cons, List.take_zero, List.cons_append, List.nil_append, List.append_nil, List.length_cons, List.length_nil, List.drop_nil, List.size_toArray, Nat.reduceAdd, Nat.reduceLeDiff, Nat.reduceBEq, Nat.zero_add, Nat.le_refl, decide_true, mkV, List.headD_cons, cellsV, w_fldV, w_ext, w_fldP, List.getElem?_toArray, List.getElem?_cons_zero, List.getElem?_cons_succ, beq_self_eq_true, selV, hok]
  refine newC_bx fun H1 h3 g1 s1 => h3.load rfl ?_
  try simp only [sv_cons, sv_cons1, sc_cons, sc_cons1, asB_bool, ifB_true, ifB_false, un_not, bin_lss, bin_leq, bin_gtr, bin_geq, bin_eql, bin_neq, bin_add, bin_sub, bin_mul, ok_int, ok_bool, ok_slice, ok_str, ok_ptr, ok_map, ok_func, ok_iface, ok_nil, List.all_cons, List.all_nil, Bool.and_true, Bool.true_and, seg, setSeg, List.drop_succ_cons, List.drop_zero, List.take_succ_cons, List.take_zero, List.cons_append, List.nil_append, List.append_nil, List.length_cons, List.length_nil, List.drop_nil, List.size_toArray, Nat.reduceAdd, Nat.reduceLeDiff, Nat.reduceBEq, Nat.zero_add, Nat.le_refl, decide_true, mkV, List.headD_cons, cellsV, w_fldV, w_ext, w_fldP, List.getElem?_toArray, List.getElem?_cons_zero, List.getElem?_cons_succ, beq_self_eq_true, selV]
  refine c_order_asked (ha.g g1) (hb.g g1) hl fun H2 g2 => ?_
  have g := g1.trans g2
  have h3 := h3.g g2
  try simp only [sv_cons, sv_cons1, sc_cons, sc_cons1, asB_bool, ifB_true, ifB_false, un_not, bin_lss, bin_leq, bin_gtr, bin_geq, bin_eql, bin_neq, bin_add, bin_sub, bin_mul, ok_int, ok_bool, ok_slice, ok_str, ok_ptr, ok_map, ok_func, ok_iface, ok_nil, List.all_cons, List.all_nil, Bool.and_true, Bool.true_and, seg, setSeg, List.drop_succ_cons, List.drop_zero, List.take_succ_cons, List.take_zero, List.cons_append, List.nil_append, List.append_nil, List.length_cons, List.length_nil, List.drop_nil, List.size_toArray, Nat.reduceAdd, Nat.reduceLeDiff, Nat.reduceBEq, Nat.zero_add, Nat.le_refl, decide_true, mkV, List.headD_cons, cellsV, w_fldV, w_ext, w_fldP, List.getElem?_toArray, List.getElem?_cons_zero, List.getElem?_cons_succ, beq_self_eq_true, selV]
  refine ifD_of (fun h => ?_) (fun h => ?_)
  · exact hQ _ _ (by unfold applyM; rw [if_neg (by omega)]; exact Sl.nil _ _ _ _ _) g
  · have he : ordE p c = 0 := by omega
    obtain ⟨o1, o2, o3⟩ := ordE_zero he
    rw [he] at hQ
    have hget : ∀ x ∈ p, c[x.toNat]? = some (c.getD x.toNat 0) := fun x hx => by
      have := o3.2 x hx
      rw [List.getD_eq_getElem?_getD, List.getElem?_eq_getElem (by omega)]; rfl
    refine c_order_each_cells (f := fun x => c.getD x.toNat 0) (ha.g g) (by omega) (fun x hx => hb.range _ (List.mem_of_getElem? (hget x hx))) ?_ fun v H3 hv g3 => ?_
    · intro i x H3 K hx g3 hK
      apply C_order_Apply_1_of
      unfold S_order_Apply_1
      have hxm := List.mem_of_getElem? hx
      have hr := o3.2 x hxm
      refine (h3.g g3).load rfl ?_
      refine (hb.g (g.trans g3)).getIZ hr.1 (hget x hxm) fun _ => hK
    · refine hQ v H3 ?_ (g.trans g3)
      unfold applyM
      rw [if_pos he]
      exact hv.mono fun y hy _ => by have := g.size; omega

theorem c_order_Undo {a b : Value} {p : List Int} {c : List Int} (ha : Sl (rI .i64) H A a p) (hb : Sl (rI .u32) H B b c) (hl : p.length ≤ 1000000000) (hQ : ∀ v H', Sl (rI .u32) H' (fun y => H.size ≤ y) v (undoM p c) → G H H' → Q (tup2 v (.int .i64 (ordE p c))) H') :
    callV Try.prog (fnV fn_order_Undo) [a, b] H Q := by
  apply S_order_Undo_of
  unfold S_order_Undo
  refine c_order_asked ha hb hl fun H1 g1 => ?_
  try simp only [sv_cons, sv_cons1, sc_cons, sc_cons1, asB_bool, ifB_true, ifB_false, un_not, bin_lss, bin_leq, bin_gtr, bin_geq, bin_eql, bin_neq, bin_add, bin_sub, bin_mul, ok_int, ok_bool, ok_slice, ok_str, ok_ptr, ok_map, ok_func, ok_iface, ok_nil, List.all_cons, List.all_nil, Bool.and_true, Bool.true_and, seg, setSeg, List.drop_succ_cons, List.drop_zero, List.take_succ_cons, List.take_zero, List.cons_append, List.nil_append, List.append_nil, List.length_cons, List.length_nil, List.drop_nil, List.size_toArray, Nat.reduceAdd, Nat.reduceLeDiff, Nat.reduceBEq, Nat.zero_add, Nat.le_refl, decide_true, mkV, List.headD_cons, cellsV, w_fldV, w_ext, w_fldP, List.getElem?_toArray, List.getElem?_cons_zero, List.getElem?_cons_succ, beq_self_eq_true, selV]
  refine ifD_of (fun h => ?_) (fun h => ?_)
  · exact hQ _ _ (by unfold undoM; rw [if_neg (by omega)]; exact Sl.nil _ _ _ _ _) g1
  · have he : ordE p c = 0 := by omega
    obtain ⟨o1, o2, o3⟩ := ordE_zero he
    rw [he] at hQ
    refine ha.len ?_
    refine mk_zero (R := rI .u32) (A := fun _ => False) (x := 0) ⟨rfl, by decide⟩ rfl (by omega) (by omega) (by omega) fun v H2 hv g2 s2 => ?_
    have hv := hv.mono (A' := fun _ => False) fun y hy _ => hy.1
    have g := g1.trans g2
    refine ha.len ?_
    refine loop_up p.length (fun i s H' => G H H' ∧ Ow (rI .u32) H' (H1.size + 1) (fun _ => False) v (undoN p c i) ∧ s = [[.int .i64 (i : Int)]]) ⟨g, hv, rfl⟩ ?_
    rintro i s H3 K hi ⟨g3, hv, rfl⟩ hK
    try simp only [sv_cons, sv_cons1, sc_cons, sc_cons1, asB_bool, ifB_true, ifB_false, un_not, bin_lss, bin_leq, bin_gtr, bin_geq, bin_eql, bin_neq, bin_add, bin_sub, bin_mul, ok_int, ok_bool, ok_slice, ok_str, ok_ptr, ok_map, ok_func, ok_iface, ok_nil, List.all_cons, List.all_nil, Bool.and_true, Bool.true_and, seg, setSeg, List.drop_succ_cons, List.drop_zero, List.take_succ_cons, List.take_zero, List.cons_append, List.nil_append, List.append_nil, List.length_cons, List.length_nil, List.drop_nil, List.size_toArray, Nat.reduceAdd, Nat.reduceLeDiff, Nat.reduceBEq, Nat.zero_add, Nat.le_refl, decide_true, mkV, List.headD_cons, cellsV, w_fldV, w_ext, w_fldP, List.getElem?_toArray, List.getElem?_cons_zero, List.getElem?_cons_succ, beq_self_eq_true, selV]
    refine ifD_of (fun h1 => ?_) (fun h1 => ?_)
    · have hlt : i < p.length := by omega
      have hx := List.getElem?_eq_getElem hlt
      have hc := List.getElem?_eq_getElem (show i < c.length by omega)
      have hr := o3.2 _ (List.getElem_mem hlt)
      obtain ⟨k, hk⟩ : ∃ k : Nat, p[i] = (k : Int) := ⟨p[i].toNat, by omega⟩
      refine (ha.g g3).getI hx fun _ => (hb.g g3).getI hc fun hcw => ?_
      rw [hk]
      refine hv.put (x := c[i]) (vrep_I hcw) rfl (fun _ => rfl) (by rw [undoN_len]; omega) (fun y hy _ => hy.elim) fun H4 hv4 f4 s4 => ?_
      try simp only [sv_cons, sv_cons1, sc_cons, sc_cons1, asB_bool, ifB_true, ifB_false, un_not, bin_lss, bin_leq, bin_gtr, bin_geq, bin_eql, bin_neq, bin_add, bin_sub, bin_mul, ok_int, ok_bool, ok_slice, ok_str, ok_ptr, ok_map, ok_func, ok_iface, ok_nil, List.all_cons, List.all_nil, Bool.and_true, Bool.true_and, seg, setSeg, List.drop_succ_cons, List.drop_zero, List.take_succ_cons, List.take_zero, List.cons_append, List.nil_append, List.append_nil, List.length_cons, List.length_nil, List.drop_nil, List.size_toArray, Nat.reduceAdd, Nat.reduceLeDiff, Nat.reduceBEq, Nat.zero_add, Nat.le_refl, decide_true, mkV, List.headD_cons, cellsV, w_fldV, w_ext, w_fldP, List.getElem?_toArray, List.getElem?_cons_zero, List.getElem?_cons_succ, beq_self_eq_true, selV]
      rw [wrap_i64 (by unfold i64; omega)]
      refine hK _ _ hlt ⟨g3.then f4 fun y hy => by have := g1.size; omega, ?_, by simp⟩
      have : undoN p c (i + 1) = (undoN p c i).set k c[i] := by
        show (undoN p c i).set (p.getD i 0).toNat (c.getD i 0) = _
        rw [List.getD_eq_getElem?_getD, hx, List.getD_eq_getElem?_getD, hc, Option.getD_some, Option.getD_some, hk, Int.toNat_natCast]
      rw [this]; exact hv4
    · have : i = p.length := by omega
      subst this
      refine hQ v H3 ?_ g3
      unfold undoM
      rw [if_pos he]
      exact hv.slF fun k hk => by have := g1.size; omega

theorem c_ref21_SameCells {a b : Value} {xs ys : List Int} (ha : Sl (rI .u32) H A a xs) (hb : Sl (rI .u32) H B b ys) (hl : xs.length ≤ 1000000) (hQ : Q (.bool (decide (xs = ys))) H) : callV Try.prog (fnV fn_ref21_SameCells) [a, b] H Q := by
  apply S_ref21_SameCells_of
  unfold S_ref21_SameCells
  refine ha.len (hb.len ?_)
  try simp only [sv_cons, sv_cons1, sc_cons, sc_cons1, asB_bool, ifB_true, ifB_false, un_not, bin_lss, bin_leq, bin_gtr, bin_geq, bin_eql, bin_neq, bin_add, bin_sub, bin_mul, ok_int, ok_bool, ok_slice, ok_str, ok_ptr, ok_map, ok_func, ok_iface, ok_nil, List.all_cons, List.all_nil, Bool.and_true, Bool.true_and, seg, setSeg, List.drop_succ_cons, List.drop_zero, List.take_succ_cons, List.take_zero, List.cons_append, List.nil_append, List.append_nil, List.length_cons, List.length_nil, List.drop_nil, List.size_toArray, Nat.reduceAdd, Nat.reduceLeDiff, Nat.reduceBEq, Nat.zero_add, Nat.le_refl, decide_true, mkV, List.headD_cons, cellsV, w_fldV, w_ext, w_fldP, List.getElem?_toArray, List.getElem?_cons_zero, List.getElem?_cons_succ, beq_self_eq_true, selV]
  refine ifD_of (fun h => ?_) (fun h => ?_)
  · rw [decide_eq_false (fun e => h (by rw [e]))] at hQ; exact hQ
  have hlen : xs.length = ys.length := by omega
  refine loop_up xs.length (fun i s H' => H' = H ∧ s = [[.int .i64 (i : Int)]] ∧ xs.take i = ys.take i) ⟨rfl, rfl, by simp⟩ ?_
  rintro i s H' K hi ⟨rfl, rfl, he⟩ hK
  refine ha.len ?_
  try simp only [sv_cons, sv_cons1, sc_cons, sc_cons1, asB_bool, ifB_true, ifB_false, un_not, bin_lss, bin_leq, bin_gtr, bin_geq, bin_eql, bin_neq, bin_add, bin_sub, bin_mul, ok_int, ok_bool, ok_slice, ok_str, ok_ptr, ok_map, ok_func, ok_iface, ok_nil, List.all_cons, List.all_nil, Bool.and_true, Bool.true_and, seg, setSeg, List.drop_succ_cons, List.drop_zero, List.take_succ_cons, List.take_zero, List.cons_append, List.nil_append, List.append_nil, List.length_cons, List.length_nil, List.drop_nil, List.size_toArray, Nat.reduceAdd, Nat.reduceLeDiff, Nat.reduceBEq, Nat.zero_add, Nat.le_refl, decide_true, mkV, List.headD_cons, cellsV, w_fldV, w_ext, w_fldP, List.getElem?_toArray, List.getElem?_cons_zero, List.getElem?_cons_succ, beq_self_eq_true, selV]
  refine ifD_of (fun h1 => ?_) (fun h1 => ?_)
  · have l1 : i < xs.length := by omega
    have l2 : i < ys.length := by omega
    refine ha.getI (List.getElem?_eq_getElem l1) fun _ => hb.getI (List.getElem?_eq_getElem l2) fun _ => ?_
    try simp only [sv_cons, sv_cons1, sc_cons, sc_cons1, asB_bool, ifB_true, ifB_false, un_not, bin_lss, bin_leq, bin_gtr, bin_geq, bin_eql, bin_neq, bin_add, bin_sub, bin_mul, ok_int, ok_bool, ok_slice, ok_str, ok_ptr, ok_map, ok_func, ok_iface, ok_nil, List.all_cons, List.all_nil, Bool.and_true, Bool.true_and, seg, setSeg, List.drop_succ_cons, List.drop_zero, List.take_succ_cons, List.take_zero, List.cons_append, List.nil_append, List.append_nil, List.length_cons, List.length_nil, List.drop_nil, List.size_toArray, Nat.reduceAdd, Nat.reduceLeDiff, Nat.reduceBEq, Nat.zero_add, Nat.le_refl, decide_true, mkV, List.headD_cons, cellsV, w_fldV, w_ext, w_fldP, List.getElem?_toArray, List.getElem?_cons_zero, List.getElem?_cons_succ, beq_self_eq_true, selV]
    refine ifD_of (fun h2 => ?_) (fun h2 => ?_)
    · rw [decide_eq_false (fun e => h2 (by simp only [e]))] at hQ; exact hQ
    · rw [wrap_i64 (by unfold i64; omega)]
      refine hK _ _ l1 ⟨rfl, by simp, ?_⟩
      rw [List.take_succ_eq_append_getElem l1, List.take_succ_eq_append_getElem l2, he, Classical.not_not.1 h2]
  · rw [List.take_of_length_le (by omega), List.take_of_length_le (by omega)] at he
    rw [decide_eq_true he] at hQ; exact hQ

end Go.Proofs.Ytikebhnnmnlgaaa
