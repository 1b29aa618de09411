/- Contracts: canonical traces. -/
import Derived.Test.YtlalkgkicccjiaaConGeo
import Derived.Test.YtlalkgkicccjiaaAbTwin
import Derived.Test.YtlalkgkicccjiaaMdCanon
import Derived.Test.YtlalkgkicccjiaaAbIterW
import Derived.Test.YtlalkgkicccjiaaConDev
import Derived.Test.YtlalkgkicccjiaaMdCanon
namespace Go.Proofs.Ytlalkgkicccjiaa
open Go.Ab Go.Md
set_option linter.unusedVariables false
set_option linter.unusedSimpArgs false
set_option maxRecDepth 20000

variable {H : Heap} {Q : Value → Heap → Prop} {A B C : Nat → Prop}

/-- Levels, from the last one on. -/
theorem c_Backward_1 {a1 : Nat} {v : Value} {l : List Lvl} (hn : l.length ≤ 1000000) :
    IterW Try.prog (.func (.func fn_slices_Backward_api_Level_api_Level_1) #[] #[.pointer (some ⟨a1, 0, none⟩)]) l.length
      (fun i m H a => ∃ p, (backL l)[i]? = some p ∧ a = [.int .i64 (p.1 : Int), .agg (cLvl p.2).toArray]) (fun H => Bx H a1 [v] ∧ Sl rLvl H B v l) := by
  intro yv I E H Q W0 _ hG hE hS hSE hsz hw h0 hy hQ
  apply C_slices_Backward_api_Level_api_Level_1_of
  unfold S_slices_Backward_api_Level_api_Level_1
  obtain ⟨h1, hl⟩ := hS _ _ _ h0
  refine h1.load rfl ?_
  try simp only [sv_cons, sv_cons1, sc_cons, sc_cons1, asB_bool, ifB_true, ifB_false, un_not, bin_lss, bin_leq, bin_gtr, bin_geq, bin_eql, bin_neq, bin_add, bin_sub, bin_mul, ok_int, ok_bool, ok_slice, ok_str, ok_ptr, ok_map, ok_func, ok_iface, ok_nil, List.all_cons, List.all_nil, Bool.and_true, Bool.true_and, seg, setSeg, List.drop_succ_cons, List.drop_zero, List.take_succ_cons, List.take_zero, List.cons_append, List.nil_append, List.append_nil, List.length_cons, List.length_nil, List.drop_nil, List.size_toArray, Nat.reduceAdd, Nat.reduceLeDiff, Nat.reduceBEq, Nat.zero_add, Nat.le_refl, decide_true, mkV, List.headD_cons, cellsV, w_fldV, w_ext, w_fldP, List.getElem?_toArray, List.getElem?_cons_zero, List.getElem?_cons_succ, beq_self_eq_true, selV]
  refine hl.len ?_
  try simp only [sv_cons, sv_cons1, sc_cons, sc_cons1, asB_bool, ifB_true, ifB_false, un_not, bin_lss, bin_leq, bin_gtr, bin_geq, bin_eql, bin_neq, bin_add, bin_sub, bin_mul, ok_int, ok_bool, ok_slice, ok_str, ok_ptr, ok_map, ok_func, ok_iface, ok_nil, List.all_cons, List.all_nil, Bool.and_true, Bool.true_and, seg, setSeg, List.drop_succ_cons, List.drop_zero, List.take_succ_cons, List.take_zero, List.cons_append, List.nil_append, List.append_nil, List.length_cons, List.length_nil, List.drop_nil, List.size_toArray, Nat.reduceAdd, Nat.reduceLeDiff, Nat.reduceBEq, Nat.zero_add, Nat.le_refl, decide_true, mkV, List.headD_cons, cellsV, w_fldV, w_ext, w_fldP, List.getElem?_toArray, List.getElem?_cons_zero, List.getElem?_cons_succ, beq_self_eq_true, selV]
  rw [wrap_i64 (by unfold i64; omega)]
  refine loop_up l.length (fun i st H' => (∃ W, I i W H' ∧ Ext W0 H W H') ∧ st = [[.int .i64 ((l.length : Int) - 1 - i)]]) ⟨⟨W0, h0, .refl _ _⟩, by simp⟩ ?_
  rintro i st H' K hi ⟨⟨W, hI, he⟩, rfl⟩ hK
  try simp only [sv_cons, sv_cons1, sc_cons, sc_cons1, asB_bool, ifB_true, ifB_false, un_not, bin_lss, bin_leq, bin_gtr, bin_geq, bin_eql, bin_neq, bin_add, bin_sub, bin_mul, ok_int, ok_bool, ok_slice, ok_str, ok_ptr, ok_map, ok_func, ok_iface, ok_nil, List.all_cons, List.all_nil, Bool.and_true, Bool.true_and, seg, setSeg, List.drop_succ_cons, List.drop_zero, List.take_succ_cons, List.take_zero, List.cons_append, List.nil_append, List.append_nil, List.length_cons, List.length_nil, List.drop_nil, List.size_toArray, Nat.reduceAdd, Nat.reduceLeDiff, Nat.reduceBEq, Nat.zero_add, Nat.le_refl, decide_true, mkV, List.headD_cons, cellsV, w_fldV, w_ext, w_fldP, List.getElem?_toArray, List.getElem?_cons_zero, List.getElem?_cons_succ, beq_self_eq_true, selV]
  refine ifD_of (fun c1 => ?_) (fun c1 => ?_)
  · obtain ⟨k1, kl⟩ := hS _ _ _ hI
    refine k1.load rfl ?_
    try simp only [sv_cons, sv_cons1, sc_cons, sc_cons1, asB_bool, ifB_true, ifB_false, un_not, bin_lss, bin_leq, bin_gtr, bin_geq, bin_eql, bin_neq, bin_add, bin_sub, bin_mul, ok_int, ok_bool, ok_slice, ok_str, ok_ptr, ok_map, ok_func, ok_iface, ok_nil, List.all_cons, List.all_nil, Bool.and_true, Bool.true_and, seg, setSeg, List.drop_succ_cons, List.drop_zero, List.take_succ_cons, List.take_zero, List.cons_append, List.nil_append, List.append_nil, List.length_cons, List.length_nil, List.drop_nil, List.size_toArray, Nat.reduceAdd, Nat.reduceLeDiff, Nat.reduceBEq, Nat.zero_add, Nat.le_refl, decide_true, mkV, List.headD_cons, cellsV, w_fldV, w_ext, w_fldP, List.getElem?_toArray, List.getElem?_cons_zero, List.getElem?_cons_succ, beq_self_eq_true, selV]
    have hlt : l.length - 1 - i < l.length := by omega
    have hz : (l.length : Int) - 1 - i = ((l.length - 1 - i : Nat) : Int) := by omega
    rw [hz]
    refine kl.get rfl (List.getElem?_eq_getElem hlt) fun cs hr => ?_
    obtain ⟨rfl, _⟩ := hr
    try simp only [sv_cons, sv_cons1, sc_cons, sc_cons1, asB_bool, ifB_true, ifB_false, un_not, bin_lss, bin_leq, bin_gtr, bin_geq, bin_eql, bin_neq, bin_add, bin_sub, bin_mul, ok_int, ok_bool, ok_slice, ok_str, ok_ptr, ok_map, ok_func, ok_iface, ok_nil, List.all_cons, List.all_nil, Bool.and_true, Bool.true_and, seg, setSeg, List.drop_succ_cons, List.drop_zero, List.take_succ_cons, List.take_zero, List.cons_append, List.nil_append, List.append_nil, List.length_cons, List.length_nil, List.drop_nil, List.size_toArray, Nat.reduceAdd, Nat.reduceLeDiff, Nat.reduceBEq, Nat.zero_add, Nat.le_refl, decide_true, mkV, List.headD_cons, cellsV, w_fldV, w_ext, w_fldP, List.getElem?_toArray, List.getElem?_cons_zero, List.getElem?_cons_succ, beq_self_eq_true, selV]
    refine hy i W H' _ _ (by omega) hI ⟨_, backL_get (by omega), rfl⟩ (fun W2 H2 hI2 he2 => ?_) (fun W2 H2 hE2 he2 => ?_)
    · try simp only [sv_cons, sv_cons1, sc_cons, sc_cons1, asB_bool, ifB_true, ifB_false, un_not, bin_lss, bin_leq, bin_gtr, bin_geq, bin_eql, bin_neq, bin_add, bin_sub, bin_mul, ok_int, ok_bool, ok_slice, ok_str, ok_ptr, ok_map, ok_func, ok_iface, ok_nil, List.all_cons, List.all_nil, Bool.and_true, Bool.true_and, seg, setSeg, List.drop_succ_cons, List.drop_zero, List.take_succ_cons, List.take_zero, List.cons_append, List.nil_append, List.append_nil, List.length_cons, List.length_nil, List.drop_nil, List.size_toArray, Nat.reduceAdd, Nat.reduceLeDiff, Nat.reduceBEq, Nat.zero_add, Nat.le_refl, decide_true, mkV, List.headD_cons, cellsV, w_fldV, w_ext, w_fldP, List.getElem?_toArray, List.getElem?_cons_zero, List.getElem?_cons_succ, beq_self_eq_true, selV, Bool.not_true]
      rw [wrap_i64 (by unfold i64; omega)]
      exact hK _ _ (by omega) ⟨⟨W2, hI2, he.trans he2⟩, by simp; omega⟩
    · try simp only [sv_cons, sv_cons1, sc_cons, sc_cons1, asB_bool, ifB_true, ifB_false, un_not, bin_lss, bin_leq, bin_gtr, bin_geq, bin_eql, bin_neq, bin_add, bin_sub, bin_mul, ok_int, ok_bool, ok_slice, ok_str, ok_ptr, ok_map, ok_func, ok_iface, ok_nil, List.all_cons, List.all_nil, Bool.and_true, Bool.true_and, seg, setSeg, List.drop_succ_cons, List.drop_zero, List.take_succ_cons, List.take_zero, List.cons_append, List.nil_append, List.append_nil, List.length_cons, List.length_nil, List.drop_nil, List.size_toArray, Nat.reduceAdd, Nat.reduceLeDiff, Nat.reduceBEq, Nat.zero_add, Nat.le_refl, decide_true, mkV, List.headD_cons, cellsV, w_fldV, w_ext, w_fldP, List.getElem?_toArray, List.getElem?_cons_zero, List.getElem?_cons_succ, beq_self_eq_true, selV, Bool.not_false]
      exact hQ _ W2 _ (he.trans he2) (.inr hE2)
  · have : i = l.length := by omega
    subst this
    exact hQ _ W _ he (.inl hI)

/-! ### Lists of numbers: cloned, and turned round -/

theorem Ow.fA {q : IntKind} {b : Nat} {v : Value} {xs : List Int} (h : Ow (rI q) H b A v xs) : Ow (rI q) H b B v xs := h

theorem c_Clone_int {x : Value} {xs : List Int} (hx : Sl (rI .i64) H A x xs) (hl : xs.length ≤ 1000000) (hQ : ∀ u H' b, Ow (rI .i64) H' b (fun _ => False) u xs → G H H' → (b = 0 ∨ H.size < b) → Q u H') :
    callV Try.prog (fnV fn_slices_Clone_int_int) [x] H Q := by
  apply S_slices_Clone_int_int_of
  exact clone_gen (R := rI .i64) hx rfl (by decide) rfl (by omega) (by omega) fun u H' b ho g hb => hQ u H' b (Ow.fA ho) g hb

/-- The first and the last k are turned round. -/
def SwL (xs ys : List Int) (k : Nat) : Prop := ys.length = xs.length ∧ ∀ j, j < xs.length → ys[j]? = if j < k ∨ xs.length - k ≤ j then xs[xs.length - 1 - j]? else xs[j]?

theorem SwL.done {xs ys : List Int} {k : Nat} (h : SwL xs ys k) (hk : xs.length ≤ 2 * k + 1) : ys = xs.reverse := by
  apply List.ext_getElem?
  intro j
  by_cases hj : j < xs.length
  · rw [h.2 j hj, List.getElem?_reverse hj]
    split
    · rfl
    · congr 1; omega
  · rw [List.getElem?_eq_none (by rw [h.1]; omega), List.getElem?_eq_none (by simp; omega)]

theorem SwL.step {xs ys : List Int} {k : Nat} {a b : Int} (h : SwL xs ys k) (hk : 2 * k + 1 < xs.length) (ha : ys[k]? = some a) (hb : ys[xs.length - 1 - k]? = some b) : SwL xs ((ys.set k b).set (xs.length - 1 - k) a) (k + 1) := by
  obtain ⟨h1, h2⟩ := h
  have ea := h2 k (by omega)
  have eb := h2 (xs.length - 1 - k) (by omega)
  rw [if_neg (by omega), ha] at ea
  rw [if_neg (by omega), hb] at eb
  refine ⟨by simp [h1], fun j hj => ?_⟩
  rw [List.getElem?_set, List.getElem?_set]
  by_cases e1 : xs.length - 1 - k = j
  · rw [if_pos e1, if_pos (by simp; omega), if_pos (by omega), show xs.length - 1 - j = k by omega]; exact ea
  · rw [if_neg e1]
    by_cases e2 : k = j
    · rw [if_pos e2, if_pos (by omega), if_pos (by omega), ← e2]; exact eb
    · rw [if_neg e2, h2 j hj]
      by_cases c : j < k ∨ xs.length - k ≤ j
      · rw [if_pos c, if_pos (by omega)]
      · rw [if_neg c, if_neg (by omega)]

theorem c_Reverse_int {x : Value} {b : Nat} {xs : List Int} (hx : Ow (rI .i64) H b (fun _ => False) x xs) (hl : xs.length ≤ 1000000) (hQ : ∀ H', Ow (rI .i64) H' b (fun _ => False) x xs.reverse → Fr (fun y => y + 1 ≠ b) H H' → H'.size = H.size → Q (.tuple #[]) H') :
    callV Try.prog (fnV fn_slices_Reverse_int_int) [x] H Q := by
  apply S_slices_Reverse_int_int_of
  unfold S_slices_Reverse_int_int
  refine hx.len ?_
  try simp only [sv_cons, sv_cons1, sc_cons, sc_cons1, asB_bool, ifB_true, ifB_false, un_not, bin_lss, bin_leq, bin_gtr, bin_geq, bin_eql, bin_neq, bin_add, bin_sub, bin_mul, ok_int, ok_bool, ok_slice, ok_str, ok_ptr, ok_map, ok_func, ok_iface, ok_nil, List.all_cons, List.all_nil, Bool.and_true, Bool.true_and, seg, setSeg, List.drop_succ_cons, List.drop_zero, List.take_succ_cons, List.take_zero, List.cons_append, List.nil_append, List.append_nil, List.length_cons, List.length_nil, List.drop_nil, List.size_toArray, Nat.reduceAdd, Nat.reduceLeDiff, Nat.reduceBEq, Nat.zero_add, Nat.le_refl, decide_true, mkV, List.headD_cons, cellsV, w_fldV, w_ext, w_fldP, List.getElem?_toArray, List.getElem?_cons_zero, List.getElem?_cons_succ, beq_self_eq_true, selV]
  rw [wrap_i64 (by unfold i64; omega)]
  refine loop_up xs.length (fun k st H' => (∃ ys, SwL xs ys k ∧ Ow (rI .i64) H' b (fun _ => False) x ys) ∧ Fr (fun y => y + 1 ≠ b) H H' ∧ H'.size = H.size ∧ st = [[.int .i64 (k : Int)], [.int .i64 ((xs.length : Int) - 1 - k)]])
    ⟨⟨xs, ⟨rfl, fun j hj => by rw [if_neg (by omega)]⟩, hx⟩, .refl _ _, rfl, by simp⟩ ?_
  rintro k st H' K hi ⟨⟨ys, hs, ho⟩, hf, hz, rfl⟩ hK
  try simp only [sv_cons, sv_cons1, sc_cons, sc_cons1, asB_bool, ifB_true, ifB_false, un_not, bin_lss, bin_leq, bin_gtr, bin_geq, bin_eql, bin_neq, bin_add, bin_sub, bin_mul, ok_int, ok_bool, ok_slice, ok_str, ok_ptr, ok_map, ok_func, ok_iface, ok_nil, List.all_cons, List.all_nil, Bool.and_true, Bool.true_and, seg, setSeg, List.drop_succ_cons, List.drop_zero, List.take_succ_cons, List.take_zero, List.cons_append, List.nil_append, List.append_nil, List.length_cons, List.length_nil, List.drop_nil, List.size_toArray, Nat.reduceAdd, Nat.reduceLeDiff, Nat.reduceBEq, Nat.zero_add, Nat.le_refl, decide_true, mkV, List.headD_cons, cellsV, w_fldV, w_ext, w_fldP, List.getElem?_toArray, List.getElem?_cons_zero, List.getElem?_cons_succ, beq_self_eq_true, selV]
  refine ifD_of (fun c1 => ?_) (fun c1 => ?_)
  · have e1 : (xs.length : Int) - 1 - k = ((xs.length - 1 - k : Nat) : Int) := by omega
    obtain ⟨h1, h2⟩ := id hs
    have ga : ys[k]? = some (ys[k]'(by omega)) := List.getElem?_eq_getElem _
    have gb : ys[xs.length - 1 - k]? = some (ys[xs.length - 1 - k]'(by omega)) := List.getElem?_eq_getElem _
    have hstep := hs.step (by omega) ga gb
    generalize ys[k]'(by omega) = a at *
    generalize ys[xs.length - 1 - k]'(by omega) = c at *
    rw [e1]
    have hsl := ho.slF (A' := fun _ => True) fun _ _ => trivial
    refine hsl.getI gb fun rb => ?_
    refine hsl.getI ga fun ra => ?_
    refine ho.put (A := fun _ => False) (x := c) (vrep_I rb) rfl (fun _ => rfl) (by omega) (fun y hy _ => hy.elim) fun H2 ho2 f2 s2 => ?_
    refine ho2.put (A := fun _ => False) (x := a) (vrep_I ra) rfl (fun _ => rfl) (by simp; omega) (fun y hy _ => hy.elim) fun H3 ho3 f3 s3 => ?_
    try simp only [sv_cons, sv_cons1, sc_cons, sc_cons1, asB_bool, ifB_true, ifB_false, un_not, bin_lss, bin_leq, bin_gtr, bin_geq, bin_eql, bin_neq, bin_add, bin_sub, bin_mul, ok_int, ok_bool, ok_slice, ok_str, ok_ptr, ok_map, ok_func, ok_iface, ok_nil, List.all_cons, List.all_nil, Bool.and_true, Bool.true_and, seg, setSeg, List.drop_succ_cons, List.drop_zero, List.take_succ_cons, List.take_zero, List.cons_append, List.nil_append, List.append_nil, List.length_cons, List.length_nil, List.drop_nil, List.size_toArray, Nat.reduceAdd, Nat.reduceLeDiff, Nat.reduceBEq, Nat.zero_add, Nat.le_refl, decide_true, mkV, List.headD_cons, cellsV, w_fldV, w_ext, w_fldP, List.getElem?_toArray, List.getElem?_cons_zero, List.getElem?_cons_succ, beq_self_eq_true, selV]
    rw [wrap_i64 (by unfold i64; omega), wrap_i64 (by unfold i64; omega)]
    exact hK _ _ (by omega) ⟨⟨_, hstep, ho3⟩, (hf.trans f2 fun y _ h => ⟨h, h⟩).trans f3 fun y _ h => ⟨h, h⟩, by omega, by simp; omega⟩
  · have := hs.done (by omega)
    subst this
    exact hQ _ ho hf hz

/-! ### A path's turns -/

/-- What is handed on: a turn's kind and level, and its buckets. -/
def Yt (T : List Turn) (i base : Nat) (H : Heap) (a : List Value) : Prop := ∃ t u, T[i]? = some t ∧ a = [.agg #[.int .u8 t.kind, .int .i64 (t.level : Int), .int .i64 0, .slice none 0 0], u] ∧ Sl (rI .i64) H (fun y => base ≤ y) u t.at'

/-- What is told of what turns are handed to. -/
structure Yl (yv : Value) (T : List Turn) (base : Nat) (I : Nat → (Nat → Prop) → Heap → Prop) (E : (Nat → Prop) → Heap → Prop) (S : Heap → Prop) : Prop where
  gI : ∀ i W H H', I i W H → G H H' → I i W H'
  gE : ∀ W H H', E W H → G H H' → E W H'
  sI : ∀ i W H, I i W H → S H
  sE : ∀ W H, E W H → S H
  sz : ∀ i W H', I i W H' → base ≤ H'.size
  wI : ∀ i W H', I i W H' → ∀ y, W y → y < H'.size
  st : ∀ i W H' a (K : Value → Heap → Prop), i < T.length → I i W H' → Yt T i base H' a → (∀ W' H'', I (i + 1) W' H'' → Ext W H' W' H'' → K (.bool true) H'') → (∀ W' H'', E W' H'' → Ext W H' W' H'' → K (.bool false) H'') → callV Try.prog yv a H' K

theorem Ext.bx {W W' : Nat → Prop} {H H' : Heap} {a : Nat} {cs : List Value} (h : Ext W H W' H') (hb : Bx H a cs) (hn : ¬ W a) : Bx H' a cs ∧ ¬ W' a :=
  ⟨by obtain ⟨e, he⟩ := hb; exact ⟨e, by rw [h.2.1 a (Bx.lt ⟨e, he⟩) hn]; exact he⟩, fun hw => (h.2.2 a hw).elim hn fun h2 => by have := hb.lt; omega⟩

theorem c_canon_path {y0 a4 base m k i : Nat} {v yv : Value} {l : List Lvl} {T : List Turn} {I : Nat → (Nat → Prop) → Heap → Prop} {E : (Nat → Prop) → Heap → Prop} {S : Heap → Prop} {lv : Lvl} {leaf : Nat} {W : Nat → Prop}
    (hY : Yl yv T base I E S) (hS : ∀ H, S H → Bx H y0 [v] ∧ Sl rLvl H (fun y => y < m) v l) (hx : l[i]? = some lv) (hok : lv.ok) (hleaf : leaf < 2 ^ lv.high.toNat)
    (h1 : T[k]? = some ⟨1, i, wayL lv.high leaf⟩) (h2 : T[k + 1]? = some ⟨2, i, (wayL lv.high leaf).reverse⟩) (hI : I k W H) (h4 : Bx H a4 [yv]) (hn : ¬ W a4)
    (hc : ∀ W' H', I (k + 2) W' H' → Ext W H W' H' → Q (.bool true) H') (hs : ∀ W' H', E W' H' → Ext W H W' H' → Q (.bool false) H') :
    callV Try.prog (.func (.func fn_canon_turns_1_1) #[] #[.pointer (some ⟨y0, 0, none⟩), .pointer (some ⟨a4, 0, none⟩)]) [.int .i64 (i : Int), .int .i64 (leaf : Int)] H Q := by
  apply C_canon_turns_1_1_of
  unfold S_canon_turns_1_1
  obtain ⟨b0, hl⟩ := hS _ (hY.sI _ _ _ hI)
  obtain ⟨_, _, _, _, o1, o2, _, _⟩ := id hok
  have hp := pow_le64 (h := lv.high.toNat) (by omega)
  refine b0.load rfl ?_
  try simp only [sv_cons, sv_cons1, sc_cons, sc_cons1, asB_bool, ifB_true, ifB_false, un_not, bin_lss, bin_leq, bin_gtr, bin_geq, bin_eql, bin_neq, bin_add, bin_sub, bin_mul, ok_int, ok_bool, ok_slice, ok_str, ok_ptr, ok_map, ok_func, ok_iface, ok_nil, List.all_cons, List.all_nil, Bool.and_true, Bool.true_and, seg, setSeg, List.drop_succ_cons, List.drop_zero, List.take_succ_cons, List.take_zero, List.cons_append, List.nil_append, List.append_nil, List.length_cons, List.length_nil, List.drop_nil, List.size_toArray, Nat.reduceAdd, Nat.reduceLeDiff, Nat.reduceBEq, Nat.zero_add, Nat.le_refl, decide_true, mkV, List.headD_cons, cellsV, w_fldV, w_ext, w_fldP, List.getElem?_toArray, List.getElem?_cons_zero, List.getElem?_cons_succ, beq_self_eq_true, selV]
  refine hl.at rfl hx fun p cs hp hr => ?_
  obtain ⟨rfl, _⟩ := hr
  refine hp.fld1 (by simp) fun p1 hp1 => hp1.load rfl ?_
  try simp only [sv_cons, sv_cons1, sc_cons, sc_cons1, asB_bool, ifB_true, ifB_false, un_not, bin_lss, bin_leq, bin_gtr, bin_geq, bin_eql, bin_neq, bin_add, bin_sub, bin_mul, ok_int, ok_bool, ok_slice, ok_str, ok_ptr, ok_map, ok_func, ok_iface, ok_nil, List.all_cons, List.all_nil, Bool.and_true, Bool.true_and, seg, setSeg, List.drop_succ_cons, List.drop_zero, List.take_succ_cons, List.take_zero, List.cons_append, List.nil_append, List.append_nil, List.length_cons, List.length_nil, List.drop_nil, List.size_toArray, Nat.reduceAdd, Nat.reduceLeDiff, Nat.reduceBEq, Nat.zero_add, Nat.le_refl, decide_true, mkV, List.headD_cons, cellsV, w_fldV, w_ext, w_fldP, List.getElem?_toArray, List.getElem?_cons_zero, List.getElem?_cons_succ, beq_self_eq_true, selV]
  have hle : leafE lv.high (leaf : Int) = 0 := by
    unfold leafE highE
    rw [if_neg (by rw [if_neg (by omega)]; simp), if_neg (by rw [many_nat]; omega)]
  refine c_geo_Path (fun u H1 hu g1 => ?_) (by unfold i64; omega)
  rw [if_pos hle] at hu
  rw [hle]
  have hI1 := hY.gI _ _ _ _ hI g1
  have h41 := h4.g g1
  have hsz := hY.sz _ _ _ hI
  have hlt1 := (List.getElem?_eq_some_iff.1 h1).1
  have hlt2 := (List.getElem?_eq_some_iff.1 h2).1
  try simp only [sv_cons, sv_cons1, sc_cons, sc_cons1, asB_bool, ifB_true, ifB_false, un_not, bin_lss, bin_leq, bin_gtr, bin_geq, bin_eql, bin_neq, bin_add, bin_sub, bin_mul, ok_int, ok_bool, ok_slice, ok_str, ok_ptr, ok_map, ok_func, ok_iface, ok_nil, List.all_cons, List.all_nil, Bool.and_true, Bool.true_and, seg, setSeg, List.drop_succ_cons, List.drop_zero, List.take_succ_cons, List.take_zero, List.cons_append, List.nil_append, List.append_nil, List.length_cons, List.length_nil, List.drop_nil, List.size_toArray, Nat.reduceAdd, Nat.reduceLeDiff, Nat.reduceBEq, Nat.zero_add, Nat.le_refl, decide_true, mkV, List.headD_cons, cellsV, w_fldV, w_ext, w_fldP, List.getElem?_toArray, List.getElem?_cons_zero, List.getElem?_cons_succ, beq_self_eq_true, selV]
  refine h41.load rfl ?_
  try simp only [sv_cons, sv_cons1, sc_cons, sc_cons1, asB_bool, ifB_true, ifB_false, un_not, bin_lss, bin_leq, bin_gtr, bin_geq, bin_eql, bin_neq, bin_add, bin_sub, bin_mul, ok_int, ok_bool, ok_slice, ok_str, ok_ptr, ok_map, ok_func, ok_iface, ok_nil, List.all_cons, List.all_nil, Bool.and_true, Bool.true_and, seg, setSeg, List.drop_succ_cons, List.drop_zero, List.take_succ_cons, List.take_zero, List.cons_append, List.nil_append, List.append_nil, List.length_cons, List.length_nil, List.drop_nil, List.size_toArray, Nat.reduceAdd, Nat.reduceLeDiff, Nat.reduceBEq, Nat.zero_add, Nat.le_refl, decide_true, mkV, List.headD_cons, cellsV, w_fldV, w_ext, w_fldP, List.getElem?_toArray, List.getElem?_cons_zero, List.getElem?_cons_succ, beq_self_eq_true, selV]
  refine hY.st k W H1 _ _ hlt1 hI1 ⟨_, u, h1, rfl, hu.mono fun y hy _ => by omega⟩ (fun W2 H2 hI2 he2 => ?_) (fun W2 H2 hE2 he2 => ?_)
  · try simp only [sv_cons, sv_cons1, sc_cons, sc_cons1, asB_bool, ifB_true, ifB_false, un_not, bin_lss, bin_leq, bin_gtr, bin_geq, bin_eql, bin_neq, bin_add, bin_sub, bin_mul, ok_int, ok_bool, ok_slice, ok_str, ok_ptr, ok_map, ok_func, ok_iface, ok_nil, List.all_cons, List.all_nil, Bool.and_true, Bool.true_and, seg, setSeg, List.drop_succ_cons, List.drop_zero, List.take_succ_cons, List.take_zero, List.cons_append, List.nil_append, List.append_nil, List.length_cons, List.length_nil, List.drop_nil, List.size_toArray, Nat.reduceAdd, Nat.reduceLeDiff, Nat.reduceBEq, Nat.zero_add, Nat.le_refl, decide_true, mkV, List.headD_cons, cellsV, w_fldV, w_ext, w_fldP, List.getElem?_toArray, List.getElem?_cons_zero, List.getElem?_cons_succ, beq_self_eq_true, selV, Bool.not_true]
    have hu2 : Sl (rI .i64) H2 (fun y => H.size ≤ y) u (wayL lv.high leaf) := hu.fr fun y hy hlt => ⟨hy, he2.2.1 y hlt fun hw => by have := hY.wI _ _ _ hI y hw; omega⟩
    obtain ⟨h42, hn2⟩ := Ext.bx he2 h41 hn
    have hwl := wayL_len (h := lv.high) (n := (leaf : Int))
    refine c_Clone_int hu2 (by omega) fun w H3 b3 hw g3 hb3 => ?_
    refine c_Reverse_int hw (by omega) fun H4 hw4 f4 s4 => ?_
    have g4 : G H2 H4 := g3.then f4 fun y hy => show y + 1 ≠ b3 by omega
    have h44 := h42.g g4
    refine h44.load rfl ?_
    try simp only [sv_cons, sv_cons1, sc_cons, sc_cons1, asB_bool, ifB_true, ifB_false, un_not, bin_lss, bin_leq, bin_gtr, bin_geq, bin_eql, bin_neq, bin_add, bin_sub, bin_mul, ok_int, ok_bool, ok_slice, ok_str, ok_ptr, ok_map, ok_func, ok_iface, ok_nil, List.all_cons, List.all_nil, Bool.and_true, Bool.true_and, seg, setSeg, List.drop_succ_cons, List.drop_zero, List.take_succ_cons, List.take_zero, List.cons_append, List.nil_append, List.append_nil, List.length_cons, List.length_nil, List.drop_nil, List.size_toArray, Nat.reduceAdd, Nat.reduceLeDiff, Nat.reduceBEq, Nat.zero_add, Nat.le_refl, decide_true, mkV, List.headD_cons, cellsV, w_fldV, w_ext, w_fldP, List.getElem?_toArray, List.getElem?_cons_zero, List.getElem?_cons_succ, beq_self_eq_true, selV]
    have hz1 := g1.size
    have hz2 := he2.1
    refine hY.st (k + 1) W2 H4 _ _ hlt2 (hY.gI _ _ _ _ hI2 g4) ⟨_, w, h2, rfl, hw4.slF fun j hj => by have := hw.lt; omega⟩ (fun W5 H5 hI5 he5 => ?_) (fun W5 H5 hE5 he5 => ?_)
    · exact hc W5 H5 hI5 ((((Ext.g g1).trans he2).trans (.g g4)).trans he5)
    · exact hs W5 H5 hE5 ((((Ext.g g1).trans he2).trans (.g g4)).trans he5)
  · try simp only [sv_cons, sv_cons1, sc_cons, sc_cons1, asB_bool, ifB_true, ifB_false, un_not, bin_lss, bin_leq, bin_gtr, bin_geq, bin_eql, bin_neq, bin_add, bin_sub, bin_mul, ok_int, ok_bool, ok_slice, ok_str, ok_ptr, ok_map, ok_func, ok_iface, ok_nil, List.all_cons, List.all_nil, Bool.and_true, Bool.true_and, seg, setSeg, List.drop_succ_cons, List.drop_zero, List.take_succ_cons, List.take_zero, List.cons_append, List.nil_append, List.append_nil, List.length_cons, List.length_nil, List.drop_nil, List.size_toArray, Nat.reduceAdd, Nat.reduceLeDiff, Nat.reduceBEq, Nat.zero_add, Nat.le_refl, decide_true, mkV, List.headD_cons, cellsV, w_fldV, w_ext, w_fldP, List.getElem?_toArray, List.getElem?_cons_zero, List.getElem?_cons_succ, beq_self_eq_true, selV, Bool.not_false]
    exact hs W2 H2 hE2 ((Ext.g g1).trans he2)

/-- A loop over levels, from the last one on, whose rounds hand turns on. -/
theorem c_back {m base : Nat} {v yv : Value} {l : List Lvl} {T : List Turn} {I : Nat → (Nat → Prop) → Heap → Prop} {E : (Nat → Prop) → Heap → Prop} {S : Heap → Prop} {W : Nat → Prop} {Round : List Value → Heap → (Option (Option Nat) → Heap → Prop) → Prop} {kn Q' : Heap → Prop}
    (hY : Yl yv T base I E S) (hS : ∀ H, S H → Sl rLvl H (fun y => y < m) v l) (hn : l.length ≤ 1000000) (hm : m ≤ H.size) (pos : Nat → Nat) (hI : I (pos 0) W H) (hv : okc v = true)
    (hr : ∀ i W1 H1 p (K : Option (Option Nat) → Heap → Prop), (backL l)[i]? = some p → I (pos i) W1 H1 → Ext W H W1 H1 → (∀ W2 H2, I (pos (i + 1)) W2 H2 → Ext W1 H1 W2 H2 → K none H2) → (∀ W2 H2, E W2 H2 → Ext W1 H1 W2 H2 → K (some none) H2) →
      Round [.int .i64 (p.1 : Int), .agg (cLvl p.2).toArray] H1 K)
    (hkn : ∀ W1 H1, I (pos l.length) W1 H1 → Ext W H W1 H1 → kn H1) (hex : ∀ W1 H1, E W1 H1 → Ext W H W1 H1 → Q' H1) :
    callV Try.prog (fnV fn_slices_Backward_api_Level_api_Level) [v] H fun t21 H => RangePT Try.prog t21 H Round kn [(none, Q')] := by
  apply S_slices_Backward_api_Level_api_Level_of
  unfold S_slices_Backward_api_Level_api_Level
  rw [hv, ifB_true]
  refine newC_bx fun H2 hb g2 s2 => ?_
  have hw := hY.wI _ _ _ hI
  refine range_iterW (c_Backward_1 (B := fun y => y < m) (a1 := H.size) (v := v) hn) trivial (fun i W1 H1 => I (pos i) W1 H1 ∧ Ext W H W1 H1 ∧ Bx H1 H.size [v] ∧ ¬ W1 H.size ∧ ¬ W1 (H2.size + 1) ∧ H2.size + 2 ≤ H1.size)
    (fun c W1 H1 => c = none ∧ E W1 H1 ∧ Ext W H W1 H1 ∧ Bx H1 H.size [v]) W ?_ ?_ ?_ ?_ (fun i W1 H1 h => h.2.2.2.2.2) (fun i W1 H1 h => hY.wI _ _ _ h.1) ?_ ?_ (fun W1 H1 h => hkn W1 H1 h.1 h.2.1) ?_
  · rintro i W1 H1 H3 ⟨h1, h2, h3, h4, h5, h6⟩ g
    exact ⟨hY.gI _ _ _ _ h1 g, h2.trans (.g g), h3.g g, h4, h5, by have := g.size; omega⟩
  · rintro c W1 H1 H3 ⟨h1, h2, h3, h4⟩ g
    exact ⟨h1, hY.gE _ _ _ h2 g, h3.trans (.g g), h4.g g⟩
  · rintro i W1 H1 H3 ⟨h1, h2, h3, h4, h5, h6⟩ f
    exact ⟨h3.up f (show H.size ≠ H2.size + 1 by omega), (hS _ (hY.sI _ _ _ h1)).up f fun y hy _ => ⟨show y ≠ H2.size + 1 by omega, hy⟩⟩
  · rintro c W1 H1 H3 ⟨h1, h2, h3, h4⟩ f
    exact ⟨h4.up f (show H.size ≠ H2.size + 1 by omega), (hS _ (hY.sE _ _ h2)).up f fun y hy _ => ⟨show y ≠ H2.size + 1 by omega, hy⟩⟩
  · intro H1 g1 s1
    have g := g2.trans g1
    exact ⟨hY.gI _ _ _ _ hI g, .g g, hb.g g1, fun h => by have := hw _ h; omega, fun h => by have := hw _ h; omega, by omega⟩
  · rintro i W1 H1 H3 a K hi ⟨h1, h2, h3, h4, h5, h6⟩ ⟨p, hp, rfl⟩ f sz ht hK hE
    have hlt := (Array.getElem?_eq_some_iff.1 ht).1
    refine hr i W1 H3 p K hp h1 h2 (fun W4 H4 hI4 he4 => ?_) (fun W4 H4 hE4 he4 => ?_)
    · refine hK W4 H4 ⟨hI4, h2.trans he4, (Ext.bx he4 h3 h4).1, (Ext.bx he4 h3 h4).2, fun h => (he4.2.2 _ h).elim h5 fun hh => by omega, by have := he4.1; omega⟩ he4 (by rw [he4.2.1 _ hlt h5]; exact ht)
    · refine hE none W4 H4 ⟨rfl, hE4, h2.trans he4, (Ext.bx he4 h3 h4).1⟩ he4 (by rw [he4.2.1 _ hlt h5]; exact ht)
  · rintro c W1 H1 ⟨rfl, h2, h3, h4⟩
    exact ⟨_, List.mem_singleton.2 rfl, rfl, hex W1 H1 h2 h3⟩

/-- Boxes of the function's own. -/
structure Ob (a4 a5 : Nat) (yv pv : Value) (W : Nat → Prop) (H : Heap) : Prop where
  b4 : Bx H a4 [yv]
  n4 : ¬ W a4
  b5 : Bx H a5 [pv]
  n5 : ¬ W a5
theorem Ob.ext {a4 a5 : Nat} {yv pv : Value} {W W' : Nat → Prop} {H H' : Heap} (h : Ob a4 a5 yv pv W H) (e : Ext W H W' H') : Ob a4 a5 yv pv W' H' :=
  ⟨(Ext.bx e h.b4 h.n4).1, (Ext.bx e h.b4 h.n4).2, (Ext.bx e h.b5 h.n5).1, (Ext.bx e h.b5 h.n5).2⟩

theorem backL_mem {α : Type} {l : List α} {i : Nat} {p : Nat × α} (h : (backL l)[i]? = some p) : l[p.1]? = some p.2 ∧ i < l.length := by
  have hi := (List.getElem?_eq_some_iff.1 h).1
  rw [backL_len] at hi
  rw [backL_get hi] at h
  cases h
  exact ⟨List.getElem?_eq_getElem _, hi⟩

/-- What canon.turns leans on. -/
def TuS (y0 y1 y2 m : Nat) (v w : Value) (l : List Lvl) (cells : List (List Int)) (ticks : Nat) (H : Heap) : Prop :=
  m ≤ H.size ∧ Bx H y0 [v] ∧ Sl rLvl H (fun y => y < m) v l ∧ Bx H y1 [.int .i64 (ticks : Int)] ∧ Bx H y2 [w] ∧ Sl (rSl (rI .u32)) H (fun y => y < m) w cells



theorem c_canon_turns_1 {y0 y1 y2 m : Nat} {v w : Value} {l : List Lvl} {cells : List (List Int)} {ticks : Nat} (hn : l.length ≤ 1000) (ht : ticks ≤ 1000) (hc : CellsOk l cells ticks) :
    IterW Try.prog (.func (.func fn_canon_turns_1) #[] #[.pointer (some ⟨y0, 0, none⟩), .pointer (some ⟨y1, 0, none⟩), .pointer (some ⟨y2, 0, none⟩)]) (allT l cells ticks).length
      (fun i base H a => Yt (allT l cells ticks) i base H a) (TuS y0 y1 y2 m v w l cells ticks) := by
  intro yv I E H Q W0 hok hG hE hS hSE hsz hw h0 hy hQ
  have hY : Yl yv (allT l cells ticks) H.size I E (TuS y0 y1 y2 m v w l cells ticks) := ⟨hG, hE, hS, hSE, hsz, hw, hy⟩
  have hS1 : ∀ H, TuS y0 y1 y2 m v w l cells ticks H → Sl rLvl H (fun y => y < m) v l := fun H h => h.2.2.1
  have hS2 : ∀ H, TuS y0 y1 y2 m v w l cells ticks H → Bx H y0 [v] ∧ Sl rLvl H (fun y => y < m) v l := fun H h => ⟨h.2.1, h.2.2.1⟩
  obtain ⟨hm, b0, hl, b1, b2, hcl⟩ := hS _ _ _ h0
  have hv := hl.okcv
  have hTl := allT_len (l := l) (cells := cells) (ticks := ticks)
  apply C_canon_turns_1_of
  unfold S_canon_turns_1
  rw [hok, ifB_true]
  refine newC_bx fun H1 h4 g1 s1 => newC_bx fun H2 h5 g2 s2 => h5.store rfl fun H3 h5 f3 s3 => ?_
  have h4 := (h4.g g2).up f3 (show H.size ≠ H1.size by omega)
  have g : G H H3 := (g1.trans g2).then f3 fun y hy => show y ≠ H1.size by omega
  have hw0 := hw _ _ _ h0
  have hob : Ob H.size H1.size yv _ W0 H3 := ⟨h4, fun h => by have := hw0 _ h; omega, h5, fun h => by have := hw0 _ h; omega⟩
  have hI3 := hG _ _ _ _ h0 g
  refine (b0.g g).load rfl ?_
  try simp only [sv_cons, sv_cons1, sc_cons, sc_cons1, asB_bool, ifB_true, ifB_false, un_not, bin_lss, bin_leq, bin_gtr, bin_geq, bin_eql, bin_neq, bin_add, bin_sub, bin_mul, ok_int, ok_bool, ok_slice, ok_str, ok_ptr, ok_map, ok_func, ok_iface, ok_nil, List.all_cons, List.all_nil, Bool.and_true, Bool.true_and, seg, setSeg, List.drop_succ_cons, List.drop_zero, List.take_succ_cons, List.take_zero, List.cons_append, List.nil_append, List.append_nil, List.length_cons, List.length_nil, List.drop_nil, List.size_toArray, Nat.reduceAdd, Nat.reduceLeDiff, Nat.reduceBEq, Nat.zero_add, Nat.le_refl, decide_true, mkV, List.headD_cons, cellsV, w_fldV, w_ext, w_fldP, List.getElem?_toArray, List.getElem?_cons_zero, List.getElem?_cons_succ, beq_self_eq_true, selV]
  refine c_back (W := W0) hY hS1 (by omega) (by have := g.size; omega) (fun i => i) hI3 hv (fun i W1 H4 p K hp hI he hK hE' => ?_) (fun W1 H4 hI he => ?_) (fun W1 H4 hE4 he => ?_)
  · have ob := hob.ext he
    obtain ⟨hpl, hil⟩ := backL_mem hp
    have hpok : p.2.ok := by
      have := hS1 _ (hS _ _ _ hI)
      obtain ⟨_, _, css, _, k1, k2, _⟩ := this
      have hlt := (List.getElem?_eq_some_iff.1 hpl).1
      exact (k2 p.1 _ _ (List.getElem?_eq_getElem (by omega)) hpl).2
    obtain ⟨_, _, _, _, o1, o2, o3, o4⟩ := id hpok
    have hmb := many_bound o1 o2
    have hT := allT_fill (l := l) (cells := cells) (ticks := ticks) hp
    obtain ⟨n, hn'⟩ : ∃ n : Nat, 2 * many p.2.high - 1 = (n : Int) := ⟨(2 * many p.2.high - 1).toNat, by omega⟩
    rw [hn', Int.toNat_natCast] at hT
    unfold arg2
    try simp only [sv_cons, sv_cons1, sc_cons, sc_cons1, asB_bool, ifB_true, ifB_false, un_not, bin_lss, bin_leq, bin_gtr, bin_geq, bin_eql, bin_neq, bin_add, bin_sub, bin_mul, ok_int, ok_bool, ok_slice, ok_str, ok_ptr, ok_map, ok_func, ok_iface, ok_nil, List.all_cons, List.all_nil, Bool.and_true, Bool.true_and, seg, setSeg, List.drop_succ_cons, List.drop_zero, List.take_succ_cons, List.take_zero, List.cons_append, List.nil_append, List.append_nil, List.length_cons, List.length_nil, List.drop_nil, List.size_toArray, Nat.reduceAdd, Nat.reduceLeDiff, Nat.reduceBEq, Nat.zero_add, Nat.le_refl, decide_true, mkV, List.headD_cons, cellsV, w_fldV, w_ext, w_fldP, List.getElem?_toArray, List.getElem?_cons_zero, List.getElem?_cons_succ, beq_self_eq_true, selV]
    refine newC_bx fun H5 h7 g5 s5 => h7.storeA rfl rfl rfl fun H6 h7 f6 s6 => ?_
    have g6 : G H4 H6 := g5.then f6 fun y hy => show y ≠ H4.size by omega
    try simp only [sv_cons, sv_cons1, sc_cons, sc_cons1, asB_bool, ifB_true, ifB_false, un_not, bin_lss, bin_leq, bin_gtr, bin_geq, bin_eql, bin_neq, bin_add, bin_sub, bin_mul, ok_int, ok_bool, ok_slice, ok_str, ok_ptr, ok_map, ok_func, ok_iface, ok_nil, List.all_cons, List.all_nil, Bool.and_true, Bool.true_and, seg, setSeg, List.drop_succ_cons, List.drop_zero, List.take_succ_cons, List.take_zero, List.cons_append, List.nil_append, List.append_nil, List.length_cons, List.length_nil, List.drop_nil, List.size_toArray, Nat.reduceAdd, Nat.reduceLeDiff, Nat.reduceBEq, Nat.zero_add, Nat.le_refl, decide_true, mkV, List.headD_cons, cellsV, w_fldV, w_ext, w_fldP, List.getElem?_toArray, List.getElem?_cons_zero, List.getElem?_cons_succ, beq_self_eq_true, selV]
    refine h7.loadF (by simp) ?_
    try simp only [sv_cons, sv_cons1, sc_cons, sc_cons1, asB_bool, ifB_true, ifB_false, un_not, bin_lss, bin_leq, bin_gtr, bin_geq, bin_eql, bin_neq, bin_add, bin_sub, bin_mul, ok_int, ok_bool, ok_slice, ok_str, ok_ptr, ok_map, ok_func, ok_iface, ok_nil, List.all_cons, List.all_nil, Bool.and_true, Bool.true_and, seg, setSeg, List.drop_succ_cons, List.drop_zero, List.take_succ_cons, List.take_zero, List.cons_append, List.nil_append, List.append_nil, List.length_cons, List.length_nil, List.drop_nil, List.size_toArray, Nat.reduceAdd, Nat.reduceLeDiff, Nat.reduceBEq, Nat.zero_add, Nat.le_refl, decide_true, mkV, List.headD_cons, cellsV, w_fldV, w_ext, w_fldP, List.getElem?_toArray, List.getElem?_cons_zero, List.getElem?_cons_succ, beq_self_eq_true, selV]
    refine c_geo_Buckets ?_
    unfold bucketsV
    rw [if_pos (highE_ok.2 ⟨o1, o2⟩), hn']
    try simp only [sv_cons, sv_cons1, sc_cons, sc_cons1, asB_bool, ifB_true, ifB_false, un_not, bin_lss, bin_leq, bin_gtr, bin_geq, bin_eql, bin_neq, bin_add, bin_sub, bin_mul, ok_int, ok_bool, ok_slice, ok_str, ok_ptr, ok_map, ok_func, ok_iface, ok_nil, List.all_cons, List.all_nil, Bool.and_true, Bool.true_and, seg, setSeg, List.drop_succ_cons, List.drop_zero, List.take_succ_cons, List.take_zero, List.cons_append, List.nil_append, List.append_nil, List.length_cons, List.length_nil, List.drop_nil, List.size_toArray, Nat.reduceAdd, Nat.reduceLeDiff, Nat.reduceBEq, Nat.zero_add, Nat.le_refl, decide_true, mkV, List.headD_cons, cellsV, w_fldV, w_ext, w_fldP, List.getElem?_toArray, List.getElem?_cons_zero, List.getElem?_cons_succ, beq_self_eq_true, selV]
    refine loop_up n (fun k st H' => G H6 H' ∧ ∃ u b, Ow (rI .i64) H' b (fun _ => False) u ((downL n).take k) ∧ (b = 0 ∨ H6.size < b) ∧ st = [[u], [.int .i64 (k : Int)]]) ⟨G.fr (Fr.refl _ _), _, 0, by simpa using Ow.nil _ _ _, .inl rfl, rfl⟩ ?_
    rintro k st H' K2 hk ⟨g7, u, b, ho, hb, rfl⟩ hK2
    try simp only [sv_cons, sv_cons1, sc_cons, sc_cons1, asB_bool, ifB_true, ifB_false, un_not, bin_lss, bin_leq, bin_gtr, bin_geq, bin_eql, bin_neq, bin_add, bin_sub, bin_mul, ok_int, ok_bool, ok_slice, ok_str, ok_ptr, ok_map, ok_func, ok_iface, ok_nil, List.all_cons, List.all_nil, Bool.and_true, Bool.true_and, seg, setSeg, List.drop_succ_cons, List.drop_zero, List.take_succ_cons, List.take_zero, List.cons_append, List.nil_append, List.append_nil, List.length_cons, List.length_nil, List.drop_nil, List.size_toArray, Nat.reduceAdd, Nat.reduceLeDiff, Nat.reduceBEq, Nat.zero_add, Nat.le_refl, decide_true, mkV, List.headD_cons, cellsV, w_fldV, w_ext, w_fldP, List.getElem?_toArray, List.getElem?_cons_zero, List.getElem?_cons_succ, beq_self_eq_true, selV]
    refine ifD_of (fun c1 => ?_) (fun c1 => ?_)
    · rw [wrap_i64 (x := (n : Int) - k) (by unfold i64; omega)]
      have hkl : ((downL n).take k).length = k := by rw [List.length_take, downL_len]; omega
      have hkn : k < n := by omega
      have tk : (downL n).take (k + 1) = (downL n).take k ++ [(n : Int) - k] := by
        rw [List.take_add_one, downL_get hkn]; simp; omega
      refine ho.push (A' := fun _ => False) (x := (n : Int) - k) (vrep_I (wrap_i64 (by unfold i64; omega))) rfl (by decide) (fun _ => rfl) rfl rfl (fun y hy _ => by simp at hy) (by rw [hkl]; omega) (by rw [hkl]; omega) fun u2 H8 b8 ho8 f8 hb8 _ => ?_
      try simp only [sv_cons, sv_cons1, sc_cons, sc_cons1, asB_bool, ifB_true, ifB_false, un_not, bin_lss, bin_leq, bin_gtr, bin_geq, bin_eql, bin_neq, bin_add, bin_sub, bin_mul, ok_int, ok_bool, ok_slice, ok_str, ok_ptr, ok_map, ok_func, ok_iface, ok_nil, List.all_cons, List.all_nil, Bool.and_true, Bool.true_and, seg, setSeg, List.drop_succ_cons, List.drop_zero, List.take_succ_cons, List.take_zero, List.cons_append, List.nil_append, List.append_nil, List.length_cons, List.length_nil, List.drop_nil, List.size_toArray, Nat.reduceAdd, Nat.reduceLeDiff, Nat.reduceBEq, Nat.zero_add, Nat.le_refl, decide_true, mkV, List.headD_cons, cellsV, w_fldV, w_ext, w_fldP, List.getElem?_toArray, List.getElem?_cons_zero, List.getElem?_cons_succ, beq_self_eq_true, selV]
      rw [wrap_i64 (by unfold i64; omega)]
      have := ho.lt
      have hs7 := g7.size
      refine hK2 _ _ (by omega) ⟨g7.then f8 fun y hy => show y + 1 ≠ b by omega, u2, b8, ?_, by omega, by simp⟩
      rw [tk]
      exact ho8.mono fun y hy _ => by simp at hy
    · have hkn : k = n := by omega
      subst hkn
      rw [List.take_of_length_le (by rw [downL_len]; exact Nat.le_refl _)] at ho
      have g46 := g6.trans g7
      have hI7 := hG _ _ _ _ hI g46
      have hz := hY.sz _ _ _ hI
      have hz6 := g6.size
      refine (ob.b4.g g46).load rfl ?_
      try simp only [sv_cons, sv_cons1, sc_cons, sc_cons1, asB_bool, ifB_true, ifB_false, un_not, bin_lss, bin_leq, bin_gtr, bin_geq, bin_eql, bin_neq, bin_add, bin_sub, bin_mul, ok_int, ok_bool, ok_slice, ok_str, ok_ptr, ok_map, ok_func, ok_iface, ok_nil, List.all_cons, List.all_nil, Bool.and_true, Bool.true_and, seg, setSeg, List.drop_succ_cons, List.drop_zero, List.take_succ_cons, List.take_zero, List.cons_append, List.nil_append, List.append_nil, List.length_cons, List.length_nil, List.drop_nil, List.size_toArray, Nat.reduceAdd, Nat.reduceLeDiff, Nat.reduceBEq, Nat.zero_add, Nat.le_refl, decide_true, mkV, List.headD_cons, cellsV, w_fldV, w_ext, w_fldP, List.getElem?_toArray, List.getElem?_cons_zero, List.getElem?_cons_succ, beq_self_eq_true, selV]
      refine hY.st i W1 H' _ _ (by rw [hTl]; omega) hI7 ⟨_, u, hT, rfl, ho.slF fun j hj => by omega⟩ (fun W8 H8 hI8 he8 => ?_) (fun W8 H8 hE8 he8 => ?_)
      · try simp only [sv_cons, sv_cons1, sc_cons, sc_cons1, asB_bool, ifB_true, ifB_false, un_not, bin_lss, bin_leq, bin_gtr, bin_geq, bin_eql, bin_neq, bin_add, bin_sub, bin_mul, ok_int, ok_bool, ok_slice, ok_str, ok_ptr, ok_map, ok_func, ok_iface, ok_nil, List.all_cons, List.all_nil, Bool.and_true, Bool.true_and, seg, setSeg, List.drop_succ_cons, List.drop_zero, List.take_succ_cons, List.take_zero, List.cons_append, List.nil_append, List.append_nil, List.length_cons, List.length_nil, List.drop_nil, List.size_toArray, Nat.reduceAdd, Nat.reduceLeDiff, Nat.reduceBEq, Nat.zero_add, Nat.le_refl, decide_true, mkV, List.headD_cons, cellsV, w_fldV, w_ext, w_fldP, List.getElem?_toArray, List.getElem?_cons_zero, List.getElem?_cons_succ, beq_self_eq_true, selV, Bool.not_true]
        exact hK W8 H8 hI8 ((Ext.g g46).trans he8)
      · try simp only [sv_cons, sv_cons1, sc_cons, sc_cons1, asB_bool, ifB_true, ifB_false, un_not, bin_lss, bin_leq, bin_gtr, bin_geq, bin_eql, bin_neq, bin_add, bin_sub, bin_mul, ok_int, ok_bool, ok_slice, ok_str, ok_ptr, ok_map, ok_func, ok_iface, ok_nil, List.all_cons, List.all_nil, Bool.and_true, Bool.true_and, seg, setSeg, List.drop_succ_cons, List.drop_zero, List.take_succ_cons, List.take_zero, List.cons_append, List.nil_append, List.append_nil, List.length_cons, List.length_nil, List.drop_nil, List.size_toArray, Nat.reduceAdd, Nat.reduceLeDiff, Nat.reduceBEq, Nat.zero_add, Nat.le_refl, decide_true, mkV, List.headD_cons, cellsV, w_fldV, w_ext, w_fldP, List.getElem?_toArray, List.getElem?_cons_zero, List.getElem?_cons_succ, beq_self_eq_true, selV, Bool.not_false]
        exact hE' W8 H8 hE8 ((Ext.g g46).trans he8)
  · have b1 := (hS _ _ _ hI).2.2.2.1
    refine b1.load rfl ?_
    try simp only [sv_cons, sv_cons1, sc_cons, sc_cons1, asB_bool, ifB_true, ifB_false, un_not, bin_lss, bin_leq, bin_gtr, bin_geq, bin_eql, bin_neq, bin_add, bin_sub, bin_mul, ok_int, ok_bool, ok_slice, ok_str, ok_ptr, ok_map, ok_func, ok_iface, ok_nil, List.all_cons, List.all_nil, Bool.and_true, Bool.true_and, seg, setSeg, List.drop_succ_cons, List.drop_zero, List.take_succ_cons, List.take_zero, List.cons_append, List.nil_append, List.append_nil, List.length_cons, List.length_nil, List.drop_nil, List.size_toArray, Nat.reduceAdd, Nat.reduceLeDiff, Nat.reduceBEq, Nat.zero_add, Nat.le_refl, decide_true, mkV, List.headD_cons, cellsV, w_fldV, w_ext, w_fldP, List.getElem?_toArray, List.getElem?_cons_zero, List.getElem?_cons_succ, beq_self_eq_true, selV]
    refine loop_up ticks (fun t st H' => (∃ W, I (l.length + 4 * l.length * t) W H' ∧ Ext W0 H3 W H') ∧ st = [[.int .i64 (t : Int)]]) ⟨⟨W1, by simpa using hI, he⟩, rfl⟩ ?_
    rintro t st H' K hti ⟨⟨W2, hI2, he2⟩, rfl⟩ hK
    try simp only [sv_cons, sv_cons1, sc_cons, sc_cons1, asB_bool, ifB_true, ifB_false, un_not, bin_lss, bin_leq, bin_gtr, bin_geq, bin_eql, bin_neq, bin_add, bin_sub, bin_mul, ok_int, ok_bool, ok_slice, ok_str, ok_ptr, ok_map, ok_func, ok_iface, ok_nil, List.all_cons, List.all_nil, Bool.and_true, Bool.true_and, seg, setSeg, List.drop_succ_cons, List.drop_zero, List.take_succ_cons, List.take_zero, List.cons_append, List.nil_append, List.append_nil, List.length_cons, List.length_nil, List.drop_nil, List.size_toArray, Nat.reduceAdd, Nat.reduceLeDiff, Nat.reduceBEq, Nat.zero_add, Nat.le_refl, decide_true, mkV, List.headD_cons, cellsV, w_fldV, w_ext, w_fldP, List.getElem?_toArray, List.getElem?_cons_zero, List.getElem?_cons_succ, beq_self_eq_true, selV]
    refine ifD_of (fun c1 => ?_) (fun c1 => ?_)
    · have htt : t < ticks := by omega
      refine newC_bx fun H5 h12 g5 s5 => h12.store rfl fun H6 h12 f6 s6 => ?_
      have g6 : G H' H6 := g5.then f6 fun y hy => show y ≠ H'.size by omega
      have hI6 := hG _ _ _ _ hI2 g6
      have hw2 := hw _ _ _ hI2
      have n12 : ¬ W2 H'.size := fun h => by have := hw2 _ h; omega
      have he6 := he2.trans (.g g6)
      have b0 := (hS _ _ _ hI6).2.1
      refine b0.load rfl ?_
      try simp only [sv_cons, sv_cons1, sc_cons, sc_cons1, asB_bool, ifB_true, ifB_false, un_not, bin_lss, bin_leq, bin_gtr, bin_geq, bin_eql, bin_neq, bin_add, bin_sub, bin_mul, ok_int, ok_bool, ok_slice, ok_str, ok_ptr, ok_map, ok_func, ok_iface, ok_nil, List.all_cons, List.all_nil, Bool.and_true, Bool.true_and, seg, setSeg, List.drop_succ_cons, List.drop_zero, List.take_succ_cons, List.take_zero, List.cons_append, List.nil_append, List.append_nil, List.length_cons, List.length_nil, List.drop_nil, List.size_toArray, Nat.reduceAdd, Nat.reduceLeDiff, Nat.reduceBEq, Nat.zero_add, Nat.le_refl, decide_true, mkV, List.headD_cons, cellsV, w_fldV, w_ext, w_fldP, List.getElem?_toArray, List.getElem?_cons_zero, List.getElem?_cons_succ, beq_self_eq_true, selV]
      refine c_back (W := W2) hY hS1 (by omega) (by have := g.size; have := he6.1; omega) (fun i => l.length + (4 * l.length * t + 4 * i)) hI6 hv (fun i W7 H7 p K3 hp hI7 he7 hK3 hE7 => ?_) (fun W7 H7 hI7 he7 => ?_) (fun W7 H7 hE7 he7 => ?_)
      · have ob := hob.ext (he6.trans he7)
        obtain ⟨h12, n12⟩ := Ext.bx he7 h12 n12
        obtain ⟨hpl, hil⟩ := backL_mem hp
        have hpok : p.2.ok := by
          have := hS1 _ (hS _ _ _ hI7)
          obtain ⟨_, _, css, _, k1, k2, _⟩ := this
          have hlt := (List.getElem?_eq_some_iff.1 hpl).1
          exact (k2 p.1 _ _ (List.getElem?_eq_getElem (by omega)) hpl).2
        obtain ⟨_, _, _, _, o1, o2, o3, o4⟩ := id hpok
        have hplt := (List.getElem?_eq_some_iff.1 hpl).1
        have hxi : cells[p.1]? = some (cells[p.1]'(by rw [hc.1]; exact hplt)) := List.getElem?_eq_getElem _
        have hxl := hc.2 _ (List.mem_of_getElem? hxi)
        have hD : cells.getD p.1 [] = cells[p.1]'(by rw [hc.1]; exact hplt) := by rw [List.getD_eq_getElem?_getD, hxi]; rfl
        generalize cells[p.1]'(by rw [hc.1]; exact hplt) = x at *
        have hci : x[2 * t]? = some (x[2 * t]'(by omega)) := List.getElem?_eq_getElem _
        have hD2 : x.getD (2 * t) 0 = x[2 * t]'(by omega) := by rw [List.getD_eq_getElem?_getD, hci]; rfl
        generalize x[2 * t]'(by omega) = cv at *
        have e0 := allT_tick (l := l) (cells := cells) htt hp (show 0 < 4 by omega)
        have e1 := allT_tick (l := l) (cells := cells) htt hp (show 1 < 4 by omega)
        have e2 := allT_tick (l := l) (cells := cells) htt hp (show 2 < 4 by omega)
        have e3 := allT_tick (l := l) (cells := cells) htt hp (show 3 < 4 by omega)
        unfold levelT at e0 e1 e2 e3
        rw [hD, hD2] at e0 e1 e2 e3
        unfold arg2
        try simp only [sv_cons, sv_cons1, sc_cons, sc_cons1, asB_bool, ifB_true, ifB_false, un_not, bin_lss, bin_leq, bin_gtr, bin_geq, bin_eql, bin_neq, bin_add, bin_sub, bin_mul, ok_int, ok_bool, ok_slice, ok_str, ok_ptr, ok_map, ok_func, ok_iface, ok_nil, List.all_cons, List.all_nil, Bool.and_true, Bool.true_and, seg, setSeg, List.drop_succ_cons, List.drop_zero, List.take_succ_cons, List.take_zero, List.cons_append, List.nil_append, List.append_nil, List.length_cons, List.length_nil, List.drop_nil, List.size_toArray, Nat.reduceAdd, Nat.reduceLeDiff, Nat.reduceBEq, Nat.zero_add, Nat.le_refl, decide_true, mkV, List.headD_cons, cellsV, w_fldV, w_ext, w_fldP, List.getElem?_toArray, List.getElem?_cons_zero, List.getElem?_cons_succ, beq_self_eq_true, selV]
        refine newC_bx fun H8 h14 g8 s8 => h14.storeA rfl rfl rfl fun H9 h14 f9 s9 => ?_
        have g9 : G H7 H9 := g8.then f9 fun y hy => show y ≠ H7.size by omega
        have ob := ob.ext (.g g9)
        have h12 := h12.g g9
        have hI9 := hG _ _ _ _ hI7 g9
        have b2 := (hS _ _ _ hI9).2.2.2.2.1
        have hcl := (hS _ _ _ hI9).2.2.2.2.2
        try simp only [sv_cons, sv_cons1, sc_cons, sc_cons1, asB_bool, ifB_true, ifB_false, un_not, bin_lss, bin_leq, bin_gtr, bin_geq, bin_eql, bin_neq, bin_add, bin_sub, bin_mul, ok_int, ok_bool, ok_slice, ok_str, ok_ptr, ok_map, ok_func, ok_iface, ok_nil, List.all_cons, List.all_nil, Bool.and_true, Bool.true_and, seg, setSeg, List.drop_succ_cons, List.drop_zero, List.take_succ_cons, List.take_zero, List.cons_append, List.nil_append, List.append_nil, List.length_cons, List.length_nil, List.drop_nil, List.size_toArray, Nat.reduceAdd, Nat.reduceLeDiff, Nat.reduceBEq, Nat.zero_add, Nat.le_refl, decide_true, mkV, List.headD_cons, cellsV, w_fldV, w_ext, w_fldP, List.getElem?_toArray, List.getElem?_cons_zero, List.getElem?_cons_succ, beq_self_eq_true, selV]
        refine h14.loadF (by simp) ?_
        try simp only [sv_cons, sv_cons1, sc_cons, sc_cons1, asB_bool, ifB_true, ifB_false, un_not, bin_lss, bin_leq, bin_gtr, bin_geq, bin_eql, bin_neq, bin_add, bin_sub, bin_mul, ok_int, ok_bool, ok_slice, ok_str, ok_ptr, ok_map, ok_func, ok_iface, ok_nil, List.all_cons, List.all_nil, Bool.and_true, Bool.true_and, seg, setSeg, List.drop_succ_cons, List.drop_zero, List.take_succ_cons, List.take_zero, List.cons_append, List.nil_append, List.append_nil, List.length_cons, List.length_nil, List.drop_nil, List.size_toArray, Nat.reduceAdd, Nat.reduceLeDiff, Nat.reduceBEq, Nat.zero_add, Nat.le_refl, decide_true, mkV, List.headD_cons, cellsV, w_fldV, w_ext, w_fldP, List.getElem?_toArray, List.getElem?_cons_zero, List.getElem?_cons_succ, beq_self_eq_true, selV]
        refine b2.load rfl ?_
        try simp only [sv_cons, sv_cons1, sc_cons, sc_cons1, asB_bool, ifB_true, ifB_false, un_not, bin_lss, bin_leq, bin_gtr, bin_geq, bin_eql, bin_neq, bin_add, bin_sub, bin_mul, ok_int, ok_bool, ok_slice, ok_str, ok_ptr, ok_map, ok_func, ok_iface, ok_nil, List.all_cons, List.all_nil, Bool.and_true, Bool.true_and, seg, setSeg, List.drop_succ_cons, List.drop_zero, List.take_succ_cons, List.take_zero, List.cons_append, List.nil_append, List.append_nil, List.length_cons, List.length_nil, List.drop_nil, List.size_toArray, Nat.reduceAdd, Nat.reduceLeDiff, Nat.reduceBEq, Nat.zero_add, Nat.le_refl, decide_true, mkV, List.headD_cons, cellsV, w_fldV, w_ext, w_fldP, List.getElem?_toArray, List.getElem?_cons_zero, List.getElem?_cons_succ, beq_self_eq_true, selV]
        refine hcl.atS hxi fun q u hq hu => ?_
        refine hq.load rfl ?_
        try simp only [sv_cons, sv_cons1, sc_cons, sc_cons1, asB_bool, ifB_true, ifB_false, un_not, bin_lss, bin_leq, bin_gtr, bin_geq, bin_eql, bin_neq, bin_add, bin_sub, bin_mul, ok_int, ok_bool, ok_slice, ok_str, ok_ptr, ok_map, ok_func, ok_iface, ok_nil, List.all_cons, List.all_nil, Bool.and_true, Bool.true_and, seg, setSeg, List.drop_succ_cons, List.drop_zero, List.take_succ_cons, List.take_zero, List.cons_append, List.nil_append, List.append_nil, List.length_cons, List.length_nil, List.drop_nil, List.size_toArray, Nat.reduceAdd, Nat.reduceLeDiff, Nat.reduceBEq, Nat.zero_add, Nat.le_refl, decide_true, mkV, List.headD_cons, cellsV, w_fldV, w_ext, w_fldP, List.getElem?_toArray, List.getElem?_cons_zero, List.getElem?_cons_succ, beq_self_eq_true, selV]
        refine h12.load rfl ?_
        try simp only [sv_cons, sv_cons1, sc_cons, sc_cons1, asB_bool, ifB_true, ifB_false, un_not, bin_lss, bin_leq, bin_gtr, bin_geq, bin_eql, bin_neq, bin_add, bin_sub, bin_mul, ok_int, ok_bool, ok_slice, ok_str, ok_ptr, ok_map, ok_func, ok_iface, ok_nil, List.all_cons, List.all_nil, Bool.and_true, Bool.true_and, seg, setSeg, List.drop_succ_cons, List.drop_zero, List.take_succ_cons, List.take_zero, List.cons_append, List.nil_append, List.append_nil, List.length_cons, List.length_nil, List.drop_nil, List.size_toArray, Nat.reduceAdd, Nat.reduceLeDiff, Nat.reduceBEq, Nat.zero_add, Nat.le_refl, decide_true, mkV, List.headD_cons, cellsV, w_fldV, w_ext, w_fldP, List.getElem?_toArray, List.getElem?_cons_zero, List.getElem?_cons_succ, beq_self_eq_true, selV]
        rw [wrap_i64 (x := 2 * (t : Int)) (by unfold i64; omega), show (2 * (t : Int)) = ((2 * t : Nat) : Int) by omega]
        refine hu.getI hci fun hr => ?_
        have hcv : 0 ≤ cv ∧ cv < 4294967296 := by
          have : cv % 4294967296 = cv := hr
          omega
        try simp only [sv_cons, sv_cons1, sc_cons, sc_cons1, asB_bool, ifB_true, ifB_false, un_not, bin_lss, bin_leq, bin_gtr, bin_geq, bin_eql, bin_neq, bin_add, bin_sub, bin_mul, ok_int, ok_bool, ok_slice, ok_str, ok_ptr, ok_map, ok_func, ok_iface, ok_nil, List.all_cons, List.all_nil, Bool.and_true, Bool.true_and, seg, setSeg, List.drop_succ_cons, List.drop_zero, List.take_succ_cons, List.take_zero, List.cons_append, List.nil_append, List.append_nil, List.length_cons, List.length_nil, List.drop_nil, List.size_toArray, Nat.reduceAdd, Nat.reduceLeDiff, Nat.reduceBEq, Nat.zero_add, Nat.le_refl, decide_true, mkV, List.headD_cons, cellsV, w_fldV, w_ext, w_fldP, List.getElem?_toArray, List.getElem?_cons_zero, List.getElem?_cons_succ, beq_self_eq_true, selV]
        rw [show (Value.int IntKind.u32 cv) = .int .u32 (cv.toNat : Int) by rw [Int.toNat_of_nonneg hcv.1]]
        refine c_entry_Leaf ⟨o1, o2⟩ (by omega) ?_
        refine ⟨h12.load rfl rfl, hq.load rfl rfl, b2.load rfl rfl, ?_⟩
        try simp only [sv_cons, sv_cons1, sc_cons, sc_cons1, asB_bool, ifB_true, ifB_false, un_not, bin_lss, bin_leq, bin_gtr, bin_geq, bin_eql, bin_neq, bin_add, bin_sub, bin_mul, ok_int, ok_bool, ok_slice, ok_str, ok_ptr, ok_map, ok_func, ok_iface, ok_nil, List.all_cons, List.all_nil, Bool.and_true, Bool.true_and, seg, setSeg, List.drop_succ_cons, List.drop_zero, List.take_succ_cons, List.take_zero, List.cons_append, List.nil_append, List.append_nil, List.length_cons, List.length_nil, List.drop_nil, List.size_toArray, Nat.reduceAdd, Nat.reduceLeDiff, Nat.reduceBEq, Nat.zero_add, Nat.le_refl, decide_true, mkV, List.headD_cons, cellsV, w_fldV, w_ext, w_fldP, List.getElem?_toArray, List.getElem?_cons_zero, List.getElem?_cons_succ, beq_self_eq_true, selV]
        refine h14.loadF (by simp) ?_
        try simp only [sv_cons, sv_cons1, sc_cons, sc_cons1, asB_bool, ifB_true, ifB_false, un_not, bin_lss, bin_leq, bin_gtr, bin_geq, bin_eql, bin_neq, bin_add, bin_sub, bin_mul, ok_int, ok_bool, ok_slice, ok_str, ok_ptr, ok_map, ok_func, ok_iface, ok_nil, List.all_cons, List.all_nil, Bool.and_true, Bool.true_and, seg, setSeg, List.drop_succ_cons, List.drop_zero, List.take_succ_cons, List.take_zero, List.cons_append, List.nil_append, List.append_nil, List.length_cons, List.length_nil, List.drop_nil, List.size_toArray, Nat.reduceAdd, Nat.reduceLeDiff, Nat.reduceBEq, Nat.zero_add, Nat.le_refl, decide_true, mkV, List.headD_cons, cellsV, w_fldV, w_ext, w_fldP, List.getElem?_toArray, List.getElem?_cons_zero, List.getElem?_cons_succ, beq_self_eq_true, selV]
        refine h12.load rfl ?_
        try simp only [sv_cons, sv_cons1, sc_cons, sc_cons1, asB_bool, ifB_true, ifB_false, un_not, bin_lss, bin_leq, bin_gtr, bin_geq, bin_eql, bin_neq, bin_add, bin_sub, bin_mul, ok_int, ok_bool, ok_slice, ok_str, ok_ptr, ok_map, ok_func, ok_iface, ok_nil, List.all_cons, List.all_nil, Bool.and_true, Bool.true_and, seg, setSeg, List.drop_succ_cons, List.drop_zero, List.take_succ_cons, List.take_zero, List.cons_append, List.nil_append, List.append_nil, List.length_cons, List.length_nil, List.drop_nil, List.size_toArray, Nat.reduceAdd, Nat.reduceLeDiff, Nat.reduceBEq, Nat.zero_add, Nat.le_refl, decide_true, mkV, List.headD_cons, cellsV, w_fldV, w_ext, w_fldP, List.getElem?_toArray, List.getElem?_cons_zero, List.getElem?_cons_succ, beq_self_eq_true, selV]
        rw [cv_nat (by show t < 2 ^ 64; omega)]
        refine c_geo_Reverse (by omega) fun H10 g10 => ?_
        rw [if_pos (highE_ok.2 ⟨o1, o2⟩)]
        have ob := ob.ext (.g g10)
        have hI10 := hG _ _ _ _ hI9 g10
        try simp only [sv_cons, sv_cons1, sc_cons, sc_cons1, asB_bool, ifB_true, ifB_false, un_not, bin_lss, bin_leq, bin_gtr, bin_geq, bin_eql, bin_neq, bin_add, bin_sub, bin_mul, ok_int, ok_bool, ok_slice, ok_str, ok_ptr, ok_map, ok_func, ok_iface, ok_nil, List.all_cons, List.all_nil, Bool.and_true, Bool.true_and, seg, setSeg, List.drop_succ_cons, List.drop_zero, List.take_succ_cons, List.take_zero, List.cons_append, List.nil_append, List.append_nil, List.length_cons, List.length_nil, List.drop_nil, List.size_toArray, Nat.reduceAdd, Nat.reduceLeDiff, Nat.reduceBEq, Nat.zero_add, Nat.le_refl, decide_true, mkV, List.headD_cons, cellsV, w_fldV, w_ext, w_fldP, List.getElem?_toArray, List.getElem?_cons_zero, List.getElem?_cons_succ, beq_self_eq_true, selV]
        have hph := pow_le64 (h := p.2.high.toNat) (by omega)
        have hpp := Nat.two_pow_pos p.2.high.toNat
        refine join_of (fun s H'' => ∃ c : Bool, s = [[.bool c]] ∧ ∃ W9, Ext W7 H10 W9 H'' ∧ ((c = false ∧ I (l.length + (4 * l.length * t + 4 * (i + 1))) W9 H'') ∨ (c = true ∧ E W9 H''))) (fun K4 hK4 => ?_) ?_
        · refine ob.b5.load rfl ?_
          try simp only [sv_cons, sv_cons1, sc_cons, sc_cons1, asB_bool, ifB_true, ifB_false, un_not, bin_lss, bin_leq, bin_gtr, bin_geq, bin_eql, bin_neq, bin_add, bin_sub, bin_mul, ok_int, ok_bool, ok_slice, ok_str, ok_ptr, ok_map, ok_func, ok_iface, ok_nil, List.all_cons, List.all_nil, Bool.and_true, Bool.true_and, seg, setSeg, List.drop_succ_cons, List.drop_zero, List.take_succ_cons, List.take_zero, List.cons_append, List.nil_append, List.append_nil, List.length_cons, List.length_nil, List.drop_nil, List.size_toArray, Nat.reduceAdd, Nat.reduceLeDiff, Nat.reduceBEq, Nat.zero_add, Nat.le_refl, decide_true, mkV, List.headD_cons, cellsV, w_fldV, w_ext, w_fldP, List.getElem?_toArray, List.getElem?_cons_zero, List.getElem?_cons_succ, beq_self_eq_true, selV]
          refine c_canon_path hY hS2 hpl hpok (Nat.mod_lt _ hpp) e0 e1 hI10 ob.b4 ob.n4 (fun W11 H11 hI11 he11 => ?_) (fun W11 H11 hE11 he11 => ?_)
          · try simp only [sv_cons, sv_cons1, sc_cons, sc_cons1, asB_bool, ifB_true, ifB_false, un_not, bin_lss, bin_leq, bin_gtr, bin_geq, bin_eql, bin_neq, bin_add, bin_sub, bin_mul, ok_int, ok_bool, ok_slice, ok_str, ok_ptr, ok_map, ok_func, ok_iface, ok_nil, List.all_cons, List.all_nil, Bool.and_true, Bool.true_and, seg, setSeg, List.drop_succ_cons, List.drop_zero, List.take_succ_cons, List.take_zero, List.cons_append, List.nil_append, List.append_nil, List.length_cons, List.length_nil, List.drop_nil, List.size_toArray, Nat.reduceAdd, Nat.reduceLeDiff, Nat.reduceBEq, Nat.zero_add, Nat.le_refl, decide_true, mkV, List.headD_cons, cellsV, w_fldV, w_ext, w_fldP, List.getElem?_toArray, List.getElem?_cons_zero, List.getElem?_cons_succ, beq_self_eq_true, selV, Bool.not_true]
            have ob := ob.ext he11
            refine ob.b5.load rfl ?_
            try simp only [sv_cons, sv_cons1, sc_cons, sc_cons1, asB_bool, ifB_true, ifB_false, un_not, bin_lss, bin_leq, bin_gtr, bin_geq, bin_eql, bin_neq, bin_add, bin_sub, bin_mul, ok_int, ok_bool, ok_slice, ok_str, ok_ptr, ok_map, ok_func, ok_iface, ok_nil, List.all_cons, List.all_nil, Bool.and_true, Bool.true_and, seg, setSeg, List.drop_succ_cons, List.drop_zero, List.take_succ_cons, List.take_zero, List.cons_append, List.nil_append, List.append_nil, List.length_cons, List.length_nil, List.drop_nil, List.size_toArray, Nat.reduceAdd, Nat.reduceLeDiff, Nat.reduceBEq, Nat.zero_add, Nat.le_refl, decide_true, mkV, List.headD_cons, cellsV, w_fldV, w_ext, w_fldP, List.getElem?_toArray, List.getElem?_cons_zero, List.getElem?_cons_succ, beq_self_eq_true, selV]
            refine c_canon_path hY hS2 hpl hpok (turn_lt (by omega)) e2 e3 hI11 ob.b4 ob.n4 (fun W12 H12 hI12 he12 => ?_) (fun W12 H12 hE12 he12 => ?_)
            · try simp only [sv_cons, sv_cons1, sc_cons, sc_cons1, asB_bool, ifB_true, ifB_false, un_not, bin_lss, bin_leq, bin_gtr, bin_geq, bin_eql, bin_neq, bin_add, bin_sub, bin_mul, ok_int, ok_bool, ok_slice, ok_str, ok_ptr, ok_map, ok_func, ok_iface, ok_nil, List.all_cons, List.all_nil, Bool.and_true, Bool.true_and, seg, setSeg, List.drop_succ_cons, List.drop_zero, List.take_succ_cons, List.take_zero, List.cons_append, List.nil_append, List.append_nil, List.length_cons, List.length_nil, List.drop_nil, List.size_toArray, Nat.reduceAdd, Nat.reduceLeDiff, Nat.reduceBEq, Nat.zero_add, Nat.le_refl, decide_true, mkV, List.headD_cons, cellsV, w_fldV, w_ext, w_fldP, List.getElem?_toArray, List.getElem?_cons_zero, List.getElem?_cons_succ, beq_self_eq_true, selV, Bool.not_true]
              exact hK4 _ _ ⟨false, rfl, W12, he11.trans he12, .inl ⟨rfl, by simpa [Nat.mul_add, Nat.add_assoc] using hI12⟩⟩
            · try simp only [sv_cons, sv_cons1, sc_cons, sc_cons1, asB_bool, ifB_true, ifB_false, un_not, bin_lss, bin_leq, bin_gtr, bin_geq, bin_eql, bin_neq, bin_add, bin_sub, bin_mul, ok_int, ok_bool, ok_slice, ok_str, ok_ptr, ok_map, ok_func, ok_iface, ok_nil, List.all_cons, List.all_nil, Bool.and_true, Bool.true_and, seg, setSeg, List.drop_succ_cons, List.drop_zero, List.take_succ_cons, List.take_zero, List.cons_append, List.nil_append, List.append_nil, List.length_cons, List.length_nil, List.drop_nil, List.size_toArray, Nat.reduceAdd, Nat.reduceLeDiff, Nat.reduceBEq, Nat.zero_add, Nat.le_refl, decide_true, mkV, List.headD_cons, cellsV, w_fldV, w_ext, w_fldP, List.getElem?_toArray, List.getElem?_cons_zero, List.getElem?_cons_succ, beq_self_eq_true, selV, Bool.not_false]
              exact hK4 _ _ ⟨true, rfl, W12, he11.trans he12, .inr ⟨rfl, hE12⟩⟩
          · try simp only [sv_cons, sv_cons1, sc_cons, sc_cons1, asB_bool, ifB_true, ifB_false, un_not, bin_lss, bin_leq, bin_gtr, bin_geq, bin_eql, bin_neq, bin_add, bin_sub, bin_mul, ok_int, ok_bool, ok_slice, ok_str, ok_ptr, ok_map, ok_func, ok_iface, ok_nil, List.all_cons, List.all_nil, Bool.and_true, Bool.true_and, seg, setSeg, List.drop_succ_cons, List.drop_zero, List.take_succ_cons, List.take_zero, List.cons_append, List.nil_append, List.append_nil, List.length_cons, List.length_nil, List.drop_nil, List.size_toArray, Nat.reduceAdd, Nat.reduceLeDiff, Nat.reduceBEq, Nat.zero_add, Nat.le_refl, decide_true, mkV, List.headD_cons, cellsV, w_fldV, w_ext, w_fldP, List.getElem?_toArray, List.getElem?_cons_zero, List.getElem?_cons_succ, beq_self_eq_true, selV, Bool.not_false]
            exact hK4 _ _ ⟨true, rfl, W11, he11, .inr ⟨rfl, hE11⟩⟩
        · rintro s H11 ⟨c, rfl, W11, he11, h⟩
          have hx := ((Ext.g (W := W7) g9).trans (.g g10)).trans he11
          try simp only [sv_cons, sv_cons1, sc_cons, sc_cons1, asB_bool, ifB_true, ifB_false, un_not, bin_lss, bin_leq, bin_gtr, bin_geq, bin_eql, bin_neq, bin_add, bin_sub, bin_mul, ok_int, ok_bool, ok_slice, ok_str, ok_ptr, ok_map, ok_func, ok_iface, ok_nil, List.all_cons, List.all_nil, Bool.and_true, Bool.true_and, seg, setSeg, List.drop_succ_cons, List.drop_zero, List.take_succ_cons, List.take_zero, List.cons_append, List.nil_append, List.append_nil, List.length_cons, List.length_nil, List.drop_nil, List.size_toArray, Nat.reduceAdd, Nat.reduceLeDiff, Nat.reduceBEq, Nat.zero_add, Nat.le_refl, decide_true, mkV, List.headD_cons, cellsV, w_fldV, w_ext, w_fldP, List.getElem?_toArray, List.getElem?_cons_zero, List.getElem?_cons_succ, beq_self_eq_true, selV]
          rcases h with ⟨rfl, h⟩ | ⟨rfl, h⟩
          · exact hK3 W11 H11 h hx
          · exact hE7 W11 H11 h hx
      · try simp only [sv_cons, sv_cons1, sc_cons, sc_cons1, asB_bool, ifB_true, ifB_false, un_not, bin_lss, bin_leq, bin_gtr, bin_geq, bin_eql, bin_neq, bin_add, bin_sub, bin_mul, ok_int, ok_bool, ok_slice, ok_str, ok_ptr, ok_map, ok_func, ok_iface, ok_nil, List.all_cons, List.all_nil, Bool.and_true, Bool.true_and, seg, setSeg, List.drop_succ_cons, List.drop_zero, List.take_succ_cons, List.take_zero, List.cons_append, List.nil_append, List.append_nil, List.length_cons, List.length_nil, List.drop_nil, List.size_toArray, Nat.reduceAdd, Nat.reduceLeDiff, Nat.reduceBEq, Nat.zero_add, Nat.le_refl, decide_true, mkV, List.headD_cons, cellsV, w_fldV, w_ext, w_fldP, List.getElem?_toArray, List.getElem?_cons_zero, List.getElem?_cons_succ, beq_self_eq_true, selV]
        rw [wrap_i64 (by unfold i64; omega)]
        exact hK _ _ (by omega) ⟨⟨W7, by rw [Nat.mul_succ]; exact hI7, he6.trans he7⟩, by simp⟩
      · exact hQ _ W7 _ (((Ext.g g).trans he6).trans he7) (.inr hE7)
    · have : t = ticks := by omega
      subst this
      exact hQ _ W2 _ ((Ext.g g).trans he2) (.inl (by rw [hTl]; exact hI2))
  · exact hQ _ W1 _ ((Ext.g g).trans he) (.inr hE4)

end Go.Proofs.Ytlalkgkicccjiaa
