/- Contracts: chapter 13's examples. -/
import Derived.Test.YtelfpkegpffajaaConLaw13
import Derived.Test.YtelfpkegpffajaaMdHarm2
namespace Go.Proofs.Ytelfpkegpffajaa
open Go.Ab Go.Md
set_option linter.unusedVariables false
set_option linter.unusedSimpArgs false
set_option maxRecDepth 20000

variable {H : Heap} {Q : Value → Heap → Prop} {A B C : Nat → Prop}

def c13 : Cfg := ⟨2, 1, 2, 1, 4, 1, 1, 1, 2⟩
def txt13 (c : UInt8) : By := List.replicate 81 c
def d13 : Dv := blankD c13
def w13 : Dv := putAll d13 0 [1, 1] [txt13 120, txt13 121]
def l13 : List See := seesW 0 [1, 1] [txt13 120, txt13 121]

theorem c13_may : c13.may := by decide +kernel
theorem c13_err : c13.err = 0 := by unfold Cfg.err; rw [if_pos c13_may]
theorem d13_eq : (if c13.may then blankD c13 else []) = d13 := if_pos c13_may
theorem d13_mid : Mid d13 := mid_blank' c13_may
theorem w13_err : wrE c13 d13 0 [1, 1] [txt13 120, txt13 121] = 0 := by decide +kernel
theorem w13_mid : Mid w13 := by
  unfold w13 putAll putAll putAll
  exact mid_put (mid_put d13_mid (by simp [txt13])) (by simp [txt13])
theorem w13_may : may c13 w13 = true := by decide +kernel
theorem l13_ok : ∀ s ∈ l13, seeOk w13 s = true := by decide +kernel
theorem l13_rep : repE c13 w13 l13 = 0 := by decide +kernel
theorem l13_sees : SeesOk l13 := ⟨by decide, by unfold l13 seesW seesW seesW i64; simp⟩

theorem w_eqI13 {q : IntKind} {a b : Int} {k : Value → Prop} (h : a = b) (hk : k (.bool true)) : binV (.int q) .eql (.int q a) (.int q b) k := by
  subst h
  rw [bin_eql, decide_eq_true rfl]; exact hk

theorem c_law13_one (hQ : ∀ H', G H H' → Q (.agg (cCfg c13).toArray) H') : callV Try.prog (fnV fn_law13_one) [] H Q := by
  apply S_law13_one_of
  unfold S_law13_one
  exact newT_of fun H1 g1 _ => hQ H1 g1

theorem set_fill {α : Type} {n i : Nat} {x y : α} (h : i < n) : (List.replicate i x ++ List.replicate (n - i) y).set i x = List.replicate (i + 1) x ++ List.replicate (n - (i + 1)) y := by
  apply List.ext_getElem?
  intro j
  simp only [List.getElem?_set, List.getElem?_append, List.getElem?_replicate, List.length_append, List.length_replicate]
  by_cases h1 : i = j
  · subst h1
    rw [if_pos rfl, if_pos (by omega), if_pos (by omega), if_pos (by omega)]
  · rw [if_neg h1]
    by_cases h2 : j < i
    · rw [if_pos h2, if_pos h2, if_pos (by omega), if_pos (by omega)]
    · rw [if_neg h2]
      by_cases h4 : j < i + 1
      · omega
      · rw [if_neg h4]
        by_cases h3 : j < n
        · rw [if_pos (by omega), if_pos (by omega)]
        · rw [if_neg (by omega), if_neg (by omega)]

theorem c_law13_text {c : UInt8} {x : Int} (hx : x = (c.toNat : Int)) (hQ : ∀ v H', Ow rU8 H' (H.size + 1) (fun _ => False) v (txt13 c) → G H H' → Q v H') : callV Try.prog (fnV fn_law13_text) [.int .u8 x] H Q := by
  subst hx
  apply S_law13_text_of
  unfold S_law13_text
  refine mk_zero (R := rU8) (A := fun _ => False) (m := 81) (x := 0) ⟨rfl, trivial⟩ rfl (by omega) (by omega) (by omega) fun v H1 hv g1 s1 => ?_
  have hv := hv.mono (A' := fun _ => False) fun y hy _ => hy.1
  refine loop_up 81 (fun i s H' => G H H' ∧ Ow rU8 H' (H.size + 1) (fun _ => False) v (List.replicate i c ++ List.replicate (81 - i) 0) ∧ s = [[.int .i64 (i : Int)]]) ⟨g1, by simpa using hv, rfl⟩ ?_
  rintro i s H2 K hi ⟨g, hv, rfl⟩ hK
  have hl : (List.replicate i c ++ List.replicate (81 - i) (0 : UInt8)).length = 81 := by simp; omega
  refine hv.len ?_
  rw [hl]
  try simp only [sv_cons, sv_cons1, sc_cons, sc_cons1, asB_bool, ifB_true, ifB_false, un_not, bin_lss, bin_leq, bin_gtr, bin_geq, bin_eql, bin_neq, bin_add, bin_sub, bin_mul, ok_int, ok_bool, ok_slice, ok_str, ok_ptr, ok_map, ok_func, ok_iface, ok_nil, List.all_cons, List.all_nil, Bool.and_true, Bool.true_and, seg, setSeg, List.drop_succ_cons, List.drop_zero, List.take_succ_cons, List.take_zero, List.cons_append, List.nil_append, List.append_nil, List.length_cons, List.length_nil, List.drop_nil, List.size_toArray, Nat.reduceAdd, Nat.reduceLeDiff, Nat.reduceBEq, Nat.zero_add, Nat.le_refl, decide_true, mkV, List.headD_cons, cellsV, w_fldV, w_ext, w_fldP, List.getElem?_toArray, List.getElem?_cons_zero, List.getElem?_cons_succ, beq_self_eq_true, selV]
  refine ifD_of (fun h1 => ?_) (fun h1 => ?_)
  · refine hv.put (u := .int .u8 (c.toNat : Int)) (x := c) ⟨[_], rfl, rfl, trivial⟩ rfl (fun _ => rfl) (by omega) (fun y hy _ => hy.elim) fun H3 hv' f s => ?_
    rw [set_fill (by omega)] at hv'
    try simp only [sv_cons, sv_cons1, sc_cons, sc_cons1, asB_bool, ifB_true, ifB_false, un_not, bin_lss, bin_leq, bin_gtr, bin_geq, bin_eql, bin_neq, bin_add, bin_sub, bin_mul, ok_int, ok_bool, ok_slice, ok_str, ok_ptr, ok_map, ok_func, ok_iface, ok_nil, List.all_cons, List.all_nil, Bool.and_true, Bool.true_and, seg, setSeg, List.drop_succ_cons, List.drop_zero, List.take_succ_cons, List.take_zero, List.cons_append, List.nil_append, List.append_nil, List.length_cons, List.length_nil, List.drop_nil, List.size_toArray, Nat.reduceAdd, Nat.reduceLeDiff, Nat.reduceBEq, Nat.zero_add, Nat.le_refl, decide_true, mkV, List.headD_cons, cellsV, w_fldV, w_ext, w_fldP, List.getElem?_toArray, List.getElem?_cons_zero, List.getElem?_cons_succ, beq_self_eq_true, selV]
    rw [wrap_i64 (by unfold i64; omega)]
    refine hK _ _ (by omega) ⟨?_, hv', by simp⟩
    exact Fr.trans g f fun y hy _ => ⟨trivial, by omega⟩
  · have : i = 81 := by omega
    subst this
    have : Ow rU8 H2 (H.size + 1) (fun _ => False) v (txt13 c) := by simpa [txt13] using hv
    exact hQ v H2 this g


/-- What is known while the bucket is written. -/
structure Ax (H0 : Heap) (v : Value) (a b c d : Option Value) (H : Heap) : Prop where
  g : G H0 H
  dv : Sl rBys H (fun _ => True) v d13
  ha : ∀ u, a = some u → Sl (rI .i64) H (fun _ => True) u [1, 1]
  hb : ∀ u, b = some u → Sl rU8 H (fun _ => True) u (txt13 120)
  hc : ∀ u, c = some u → Sl rU8 H (fun _ => True) u (txt13 121)
  hd : ∀ u, d = some u → Sl rBy H (fun _ => True) u [txt13 120, txt13 121]

theorem Ax.up {H0 H' : Heap} {v : Value} {a b c d : Option Value} (h : Ax H0 v a b c d H) (g : G H H') : Ax H0 v a b c d H' :=
  ⟨h.g.trans g, h.dv.g g, fun u e => (h.ha u e).g g, fun u e => (h.hb u e).g g, fun u e => (h.hc u e).g g, fun u e => (h.hd u e).g g⟩
theorem Ax.new {H0 : Heap} {v : Value} {a b c d : Option Value} {k : Heap → Prop} (h : Ax H0 v a b c d H) (hk : ∀ H', Ax H0 v a b c d H' → k H') : newT H k := newT_of fun H' g _ => hk H' (h.up g)
theorem Ax.one {H0 : Heap} {v : Value} {a b c d : Option Value} (h : Ax H0 v a b c d H) (hk : ∀ H', Ax H0 v a b c d H' → Q (.agg (cCfg c13).toArray) H') : callV Try.prog (fnV fn_law13_one) [] H Q := c_law13_one fun H' g => hk H' (h.up g)
theorem Ax.tx {H0 : Heap} {v : Value} {a c d : Option Value} (h : Ax H0 v a none c d H) (hk : ∀ u H', Ax H0 v a (some u) c d H' → Q u H') : callV Try.prog (fnV fn_law13_text) [.int .u8 120] H Q :=
  c_law13_text (c := 120) rfl fun u H' hu g => hk u H' ⟨h.g.trans g, h.dv.g g, fun u e => (h.ha u e).g g, fun w e => by cases e; exact hu.slF fun _ _ => trivial, fun u e => (h.hc u e).g g, fun u e => (h.hd u e).g g⟩
theorem Ax.ty {H0 : Heap} {v : Value} {a b d : Option Value} (h : Ax H0 v a b none d H) (hk : ∀ u H', Ax H0 v a b (some u) d H' → Q u H') : callV Try.prog (fnV fn_law13_text) [.int .u8 121] H Q :=
  c_law13_text (c := 121) rfl fun u H' hu g => hk u H' ⟨h.g.trans g, h.dv.g g, fun u e => (h.ha u e).g g, fun u e => (h.hb u e).g g, fun w e => by cases e; exact hu.slF fun _ _ => trivial, fun u e => (h.hd u e).g g⟩
theorem Ax.ints {H0 : Heap} {v : Value} {b c d : Option Value} {e : Nat} {z : List Value} {k : Value → Heap → Prop} (h : Ax H0 v none b c d H) (hk : ∀ u H', Ax H0 v (some u) b c d H' → k u H') : bldS e 1 false z 2 [(0, .int .i64 1), (1, .int .i64 1)] H k :=
  bld_I (q := .i64) [1, 1] (by decide) rfl fun u H' hu g _ => hk u H' ⟨h.g.trans g, h.dv.g g, fun w e => by cases e; exact hu.slF fun _ _ => trivial, fun u e => (h.hb u e).g g, fun u e => (h.hc u e).g g, fun u e => (h.hd u e).g g⟩
theorem Ax.two {H0 : Heap} {v x y : Value} {a : Option Value} {e : Nat} {z : List Value} {k : Value → Heap → Prop} (h : Ax H0 v a (some x) (some y) none H) (hk : ∀ u H', Ax H0 v a (some x) (some y) (some u) H' → k u H') : bldS e 1 false z 2 [(0, x), (1, y)] H k :=
  bld_all (R := rBy) (.cons (vrep_S (h.hb x rfl)) (.cons (vrep_S (h.hc y rfl)) .nil)) rfl (fun _ => rfl) rfl fun u H' hu g _ =>
    hk u H' ⟨h.g.trans g, h.dv.g g, fun u e => (h.ha u e).g g, fun u e => (h.hb u e).g g, fun u e => (h.hc u e).g g, fun w e => by cases e; exact hu.sl (fun _ _ _ => trivial) fun _ _ => trivial⟩
structure Ax2 (H0 : Heap) (p l : Value) (H : Heap) : Prop where
  g : G H0 H
  dv : Sl rBys H (fun _ => True) p w13
  ss : Sl rSee H (fun _ => True) l l13
theorem Ax2.up {H0 H' : Heap} {p l : Value} (h : Ax2 H0 p l H) (g : G H H') : Ax2 H0 p l H' := ⟨h.g.trans g, h.dv.g g, h.ss.g g⟩
theorem Ax2.new {H0 : Heap} {p l : Value} {k : Heap → Prop} (h : Ax2 H0 p l H) (hk : ∀ H', Ax2 H0 p l H' → k H') : newT H k := newT_of fun H' g _ => hk H' (h.up g)
theorem Ax2.one {H0 : Heap} {p l : Value} (h : Ax2 H0 p l H) (hk : ∀ H', Ax2 H0 p l H' → Q (.agg (cCfg c13).toArray) H') : callV Try.prog (fnV fn_law13_one) [] H Q := c_law13_one fun H' g => hk H' (h.up g)

theorem Ax.write {H0 : Heap} {v x y z w : Value} (h : Ax H0 v (some x) (some y) (some z) (some w) H) (hk : ∀ p l H', okc p = true → Ax2 H0 p l H' → Q (tup3 (.agg #[p]) l (.int .i64 0)) H') :
    callV Try.prog (fnV fn_dev_Write) [.agg (cCfg c13).toArray, .agg #[v], .int .i64 0, x, w] H Q :=
  c_dev_Write h.dv (h.ha x rfl) (h.hd w rfl) d13_mid (by decide) (by decide) (by intro x hx; simp only [List.mem_cons, List.not_mem_nil, or_false] at hx; rcases hx with rfl | rfl <;> simp [txt13]) fun p l O F b H' hw g => by
    rw [w13_err] at hw ⊢
    exact hk p l H' hw.dv.okcv ⟨h.g.trans g, hw.dv.sl fun _ _ => trivial, hw.ss.sl (fun _ _ _ => trivial) fun _ _ => trivial⟩

structure Ax3 (H0 : Heap) (h : Hm) (v : Value) (H : Heap) : Prop where
  g : G H0 H
  dv : Sl rBys H (fun _ => True) v (doD c13 w13 l13 h)
theorem Ax3.new {H0 : Heap} {h : Hm} {v : Value} {k : Heap → Prop} (a : Ax3 H0 h v H) (hk : ∀ H', Ax3 H0 h v H' → k H') : newT H k := newT_of fun H' g _ => hk H' ⟨a.g.trans g, a.dv.g g⟩
theorem Ax2.harm {H0 : Heap} {p l : Value} {h : Hm} (a : Ax2 H0 p l H) (hh : h.ok) (hk : ∀ v H', okc v = true → Ax3 H0 h v H' → Q (tup2 (.agg #[v]) (.int .i64 (doE c13 w13 l13 h))) H') :
    callV Try.prog (fnV fn_harm_Do) [.agg (cCfg c13).toArray, .agg #[p], l, .agg #[.int .u8 h.kind, .int .i64 h.level, .int .i64 h.a, .int .i64 h.b, .int .i64 h.at', .int .u8 h.mask]] H Q :=
  c_harm_Do a.dv a.ss w13_mid l13_sees (by decide) hh fun v O F H' hdn g => hk v H' hdn.dv.okcv ⟨a.g.trans g, hdn.dv.sl fun _ _ => trivial⟩

theorem c_law13_first {h : Hm} (hh : h.ok) (hbad : doE c13 w13 l13 h ≠ 0 → ∀ H', G H H' → Q (tup2 (.slice none 0 0) (.int .i64 (doE c13 w13 l13 h))) H')
    (hgood : doE c13 w13 l13 h = 0 → ∀ u H', Sl rU8 H' (fun _ => True) u (bk (doneH c13 w13 l13 h) 0 1) → G H H' → Q (tup2 u (.int .i64 0)) H') : callV Try.prog (fnV fn_law13_first) [.agg (cHm h).toArray] H Q := by
  apply S_law13_first_of
  unfold S_law13_first
  refine newT_of fun H0 g0 _ => c_law13_one fun H1 g1 => ?_
  refine c_dev_New (c := c13) fun v H2 hv g2 => ?_
  rw [d13_eq] at hv
  rw [c13_err]
  try simp only [sv_cons, sv_cons1, sc_cons, sc_cons1, asB_bool, ifB_true, ifB_false, un_not, bin_lss, bin_leq, bin_gtr, bin_geq, bin_eql, bin_neq, bin_add, bin_sub, bin_mul, ok_int, ok_bool, ok_slice, ok_str, ok_ptr, ok_map, ok_func, ok_iface, ok_nil, List.all_cons, List.all_nil, Bool.and_true, Bool.true_and, seg, setSeg, List.drop_succ_cons, List.drop_zero, List.take_succ_cons, List.take_zero, List.cons_append, List.nil_append, List.append_nil, List.length_cons, List.length_nil, List.drop_nil, List.size_toArray, Nat.reduceAdd, Nat.reduceLeDiff, Nat.reduceBEq, Nat.zero_add, Nat.le_refl, decide_true, mkV, List.headD_cons, cellsV, w_fldV, w_ext, w_fldP, List.getElem?_toArray, List.getElem?_cons_zero, List.getElem?_cons_succ, beq_self_eq_true, selV]
  refine newT_of fun H3 g3 _ => ?_
  have g := ((g0.trans g1).trans g2).trans g3
  have hv := hv.g g3
  have hok := hv.okcv
  try simp only [sv_cons, sv_cons1, sc_cons, sc_cons1, asB_bool, ifB_true, ifB_false, un_not, bin_lss, bin_leq, bin_gtr, bin_geq, bin_eql, bin_neq, bin_add, bin_sub, bin_mul, ok_int, ok_bool, ok_slice, ok_str, ok_ptr, ok_map, ok_func, ok_iface, ok_nil, List.all_cons, List.all_nil, Bool.and_true, Bool.true_and, seg, setSeg, List.drop_succ_cons, List.drop_zero, List.take_succ_cons, List.take_zero, List.cons_append, List.nil_append, List.append_nil, List.length_cons, List.length_nil, List.drop_nil, List.size_toArray, Nat.reduceAdd, Nat.reduceLeDiff, Nat.reduceBEq, Nat.zero_add, Nat.le_refl, decide_true, mkV, List.headD_cons, cellsV, w_fldV, w_ext, w_fldP, List.getElem?_toArray, List.getElem?_cons_zero, List.getElem?_cons_succ, beq_self_eq_true, selV, hok]
  refine join_of (fun s H' => ∃ p l, Ax2 H3 p l H' ∧ s = [[p], [l], [.int .i64 0]]) (fun K hK => ?_) ?_
  · have a : Ax H3 v none none none none H3 := ⟨G.fr (Fr.refl _ _), hv.mono fun _ _ _ => trivial, (fun u e => by cases e), (fun u e => by cases e), (fun u e => by cases e), (fun u e => by cases e)⟩
    have fin : ∀ p l H', Ax2 H3 p l H' → K [[p], [l], [.int .i64 0]] H' := fun p l H' h => hK _ _ ⟨p, l, h, rfl⟩
    clear hK hgood hbad
    repeat' first
      | with_reducible refine Ax2.new (by assumption) fun H' h => ?_
      | with_reducible exact fin _ _ _ (by assumption)
      | with_reducible refine Ax.new (by assumption) fun H' h => ?_
      | with_reducible refine Ax.one (by assumption) fun H' h => ?_
      | with_reducible refine Ax.tx (by assumption) fun u H' h => ?_
      | with_reducible refine Ax.ty (by assumption) fun u H' h => ?_
      | with_reducible refine Ax.ints (by assumption) fun u H' h => ?_
      | with_reducible refine Ax.two (by assumption) fun u H' h => ?_
      | (with_reducible refine Ax.write (by assumption) fun p l H' hp h => ?_
         try simp only [sv_cons, sv_cons1, sc_cons, sc_cons1, asB_bool, ifB_true, ifB_false, un_not, bin_lss, bin_leq, bin_gtr, bin_geq, bin_eql, bin_neq, bin_add, bin_sub, bin_mul, ok_int, ok_bool, ok_slice, ok_str, ok_ptr, ok_map, ok_func, ok_iface, ok_nil, List.all_cons, List.all_nil, Bool.and_true, Bool.true_and, seg, setSeg, List.drop_succ_cons, List.drop_zero, List.take_succ_cons, List.take_zero, List.cons_append, List.nil_append, List.append_nil, List.length_cons, List.length_nil, List.drop_nil, List.size_toArray, Nat.reduceAdd, Nat.reduceLeDiff, Nat.reduceBEq, Nat.zero_add, Nat.le_refl, decide_true, mkV, List.headD_cons, cellsV, w_fldV, w_ext, w_fldP, List.getElem?_toArray, List.getElem?_cons_zero, List.getElem?_cons_succ, beq_self_eq_true, selV, hp])
      | with_reducible refine And.intro ?_ ?_
  rintro s H4 ⟨p, l, a, rfl⟩
  try simp only [sv_cons, sv_cons1, sc_cons, sc_cons1, asB_bool, ifB_true, ifB_false, un_not, bin_lss, bin_leq, bin_gtr, bin_geq, bin_eql, bin_neq, bin_add, bin_sub, bin_mul, ok_int, ok_bool, ok_slice, ok_str, ok_ptr, ok_map, ok_func, ok_iface, ok_nil, List.all_cons, List.all_nil, Bool.and_true, Bool.true_and, seg, setSeg, List.drop_succ_cons, List.drop_zero, List.take_succ_cons, List.take_zero, List.cons_append, List.nil_append, List.append_nil, List.length_cons, List.length_nil, List.drop_nil, List.size_toArray, Nat.reduceAdd, Nat.reduceLeDiff, Nat.reduceBEq, Nat.zero_add, Nat.le_refl, decide_true, mkV, List.headD_cons, cellsV, w_fldV, w_ext, w_fldP, List.getElem?_toArray, List.getElem?_cons_zero, List.getElem?_cons_succ, beq_self_eq_true, selV]
  refine join_of (fun s H' => ∃ v, Ax3 H3 h v H' ∧ s = [[v], [.int .i64 (doE c13 w13 l13 h)]]) (fun K hK => ?_) ?_
  · have fin : ∀ v H', Ax3 H3 h v H' → K [[v], [.int .i64 (doE c13 w13 l13 h)]] H' := fun v H' h => hK _ _ ⟨v, h, rfl⟩
    clear hK hgood hbad
    repeat' first
      | with_reducible refine Ax3.new (by assumption) fun H' h => ?_
      | with_reducible exact fin _ _ (by assumption)
      | with_reducible refine Ax2.new (by assumption) fun H' h => ?_
      | with_reducible refine Ax2.one (by assumption) fun H' h => ?_
      | (with_reducible refine Ax2.harm (by assumption) hh fun v H' hv' h' => ?_
         try simp only [sv_cons, sv_cons1, sc_cons, sc_cons1, asB_bool, ifB_true, ifB_false, un_not, bin_lss, bin_leq, bin_gtr, bin_geq, bin_eql, bin_neq, bin_add, bin_sub, bin_mul, ok_int, ok_bool, ok_slice, ok_str, ok_ptr, ok_map, ok_func, ok_iface, ok_nil, List.all_cons, List.all_nil, Bool.and_true, Bool.true_and, seg, setSeg, List.drop_succ_cons, List.drop_zero, List.take_succ_cons, List.take_zero, List.cons_append, List.nil_append, List.append_nil, List.length_cons, List.length_nil, List.drop_nil, List.size_toArray, Nat.reduceAdd, Nat.reduceLeDiff, Nat.reduceBEq, Nat.zero_add, Nat.le_refl, decide_true, mkV, List.headD_cons, cellsV, w_fldV, w_ext, w_fldP, List.getElem?_toArray, List.getElem?_cons_zero, List.getElem?_cons_succ, beq_self_eq_true, selV, hv'])
      | with_reducible refine And.intro ?_ ?_
  rintro s H5 ⟨v5, a5, rfl⟩
  try simp only [sv_cons, sv_cons1, sc_cons, sc_cons1, asB_bool, ifB_true, ifB_false, un_not, bin_lss, bin_leq, bin_gtr, bin_geq, bin_eql, bin_neq, bin_add, bin_sub, bin_mul, ok_int, ok_bool, ok_slice, ok_str, ok_ptr, ok_map, ok_func, ok_iface, ok_nil, List.all_cons, List.all_nil, Bool.and_true, Bool.true_and, seg, setSeg, List.drop_succ_cons, List.drop_zero, List.take_succ_cons, List.take_zero, List.cons_append, List.nil_append, List.append_nil, List.length_cons, List.length_nil, List.drop_nil, List.size_toArray, Nat.reduceAdd, Nat.reduceLeDiff, Nat.reduceBEq, Nat.zero_add, Nat.le_refl, decide_true, mkV, List.headD_cons, cellsV, w_fldV, w_ext, w_fldP, List.getElem?_toArray, List.getElem?_cons_zero, List.getElem?_cons_succ, beq_self_eq_true, selV]
  have gz := g.trans a5.g
  by_cases he : doE c13 w13 l13 h = 0
  · have hdo : doD c13 w13 l13 h = doneH c13 w13 l13 h := if_pos he
    have hm : mayH w13 l13 h = true := by
      unfold doE at he
      rw [l13_rep] at he
      simp only [ne_eq, not_true_eq_false, if_false] at he
      cases hm : mayH w13 l13 h
      · rw [hm] at he; simp at he
      · rfl
    have hmay := Go.Hd.may_done (c := c13) (bl := []) w13_may (may_blank c13_may) l13_ok hm
    obtain ⟨e1, e2⟩ := may_shape w13_may hmay
    have hl0 : (0 : Int) < w13.length := by decide +kernel
    have e3 := (e2 0 (by omega) hl0).1
    have hdv := a5.dv
    rw [hdo] at hdv
    have n1 : w13.length = 1 := by decide +kernel
    have n3 : (lvlOf w13 0).length = 3 := by decide +kernel
    have q0 := lvl_get (d := doneH c13 w13 l13 h) (level := 0) ⟨by omega, by omega⟩
    have q1 := bk_get (d := doneH c13 w13 l13 h) (level := 0) (b := 1) ⟨by omega, by omega⟩
    refine join_of (fun s H' => H' = H5 ∧ s = [[.bool false]]) (fun K hK => ?_) ?_
    · rw [he]
      try simp only [sv_cons, sv_cons1, sc_cons, sc_cons1, asB_bool, ifB_true, ifB_false, un_not, bin_lss, bin_leq, bin_gtr, bin_geq, bin_eql, bin_neq, bin_add, bin_sub, bin_mul, ok_int, ok_bool, ok_slice, ok_str, ok_ptr, ok_map, ok_func, ok_iface, ok_nil, List.all_cons, List.all_nil, Bool.and_true, Bool.true_and, seg, setSeg, List.drop_succ_cons, List.drop_zero, List.take_succ_cons, List.take_zero, List.cons_append, List.nil_append, List.append_nil, List.length_cons, List.length_nil, List.drop_nil, List.size_toArray, Nat.reduceAdd, Nat.reduceLeDiff, Nat.reduceBEq, Nat.zero_add, Nat.le_refl, decide_true, mkV, List.headD_cons, cellsV, w_fldV, w_ext, w_fldP, List.getElem?_toArray, List.getElem?_cons_zero, List.getElem?_cons_succ, beq_self_eq_true, selV]
      refine hdv.len ?_
      rw [← e1, n1]
      try simp only [sv_cons, sv_cons1, sc_cons, sc_cons1, asB_bool, ifB_true, ifB_false, un_not, bin_lss, bin_leq, bin_gtr, bin_geq, bin_eql, bin_neq, bin_add, bin_sub, bin_mul, ok_int, ok_bool, ok_slice, ok_str, ok_ptr, ok_map, ok_func, ok_iface, ok_nil, List.all_cons, List.all_nil, Bool.and_true, Bool.true_and, seg, setSeg, List.drop_succ_cons, List.drop_zero, List.take_succ_cons, List.take_zero, List.cons_append, List.nil_append, List.append_nil, List.length_cons, List.length_nil, List.drop_nil, List.size_toArray, Nat.reduceAdd, Nat.reduceLeDiff, Nat.reduceBEq, Nat.zero_add, Nat.le_refl, decide_true, mkV, List.headD_cons, cellsV, w_fldV, w_ext, w_fldP, List.getElem?_toArray, List.getElem?_cons_zero, List.getElem?_cons_succ, beq_self_eq_true, selV]
      refine hdv.getSZ (z := 0) (by omega) q0 fun w hw => hw.len ?_
      rw [← e3, n3]
      exact hK _ _ ⟨rfl, rfl⟩
    rintro s H6 ⟨rfl, rfl⟩
    try simp only [sv_cons, sv_cons1, sc_cons, sc_cons1, asB_bool, ifB_true, ifB_false, un_not, bin_lss, bin_leq, bin_gtr, bin_geq, bin_eql, bin_neq, bin_add, bin_sub, bin_mul, ok_int, ok_bool, ok_slice, ok_str, ok_ptr, ok_map, ok_func, ok_iface, ok_nil, List.all_cons, List.all_nil, Bool.and_true, Bool.true_and, seg, setSeg, List.drop_succ_cons, List.drop_zero, List.take_succ_cons, List.take_zero, List.cons_append, List.nil_append, List.append_nil, List.length_cons, List.length_nil, List.drop_nil, List.size_toArray, Nat.reduceAdd, Nat.reduceLeDiff, Nat.reduceBEq, Nat.zero_add, Nat.le_refl, decide_true, mkV, List.headD_cons, cellsV, w_fldV, w_ext, w_fldP, List.getElem?_toArray, List.getElem?_cons_zero, List.getElem?_cons_succ, beq_self_eq_true, selV]
    refine hdv.getSZ (z := 0) (by omega) q0 fun w hw => hw.getSZ (z := 0) (by omega) q1 fun u hu => ?_
    try simp only [sv_cons, sv_cons1, sc_cons, sc_cons1, asB_bool, ifB_true, ifB_false, un_not, bin_lss, bin_leq, bin_gtr, bin_geq, bin_eql, bin_neq, bin_add, bin_sub, bin_mul, ok_int, ok_bool, ok_slice, ok_str, ok_ptr, ok_map, ok_func, ok_iface, ok_nil, List.all_cons, List.all_nil, Bool.and_true, Bool.true_and, seg, setSeg, List.drop_succ_cons, List.drop_zero, List.take_succ_cons, List.take_zero, List.cons_append, List.nil_append, List.append_nil, List.length_cons, List.length_nil, List.drop_nil, List.size_toArray, Nat.reduceAdd, Nat.reduceLeDiff, Nat.reduceBEq, Nat.zero_add, Nat.le_refl, decide_true, mkV, List.headD_cons, cellsV, w_fldV, w_ext, w_fldP, List.getElem?_toArray, List.getElem?_cons_zero, List.getElem?_cons_succ, beq_self_eq_true, selV]
    exact hgood he u _ hu gz
  · refine join_of (fun s H' => H' = H5 ∧ s = [[.bool true]]) (fun K hK => ?_) ?_
    · try simp only [sv_cons, sv_cons1, sc_cons, sc_cons1, asB_bool, ifB_true, ifB_false, un_not, bin_lss, bin_leq, bin_gtr, bin_geq, bin_eql, bin_neq, bin_add, bin_sub, bin_mul, ok_int, ok_bool, ok_slice, ok_str, ok_ptr, ok_map, ok_func, ok_iface, ok_nil, List.all_cons, List.all_nil, Bool.and_true, Bool.true_and, seg, setSeg, List.drop_succ_cons, List.drop_zero, List.take_succ_cons, List.take_zero, List.cons_append, List.nil_append, List.append_nil, List.length_cons, List.length_nil, List.drop_nil, List.size_toArray, Nat.reduceAdd, Nat.reduceLeDiff, Nat.reduceBEq, Nat.zero_add, Nat.le_refl, decide_true, mkV, List.headD_cons, cellsV, w_fldV, w_ext, w_fldP, List.getElem?_toArray, List.getElem?_cons_zero, List.getElem?_cons_succ, beq_self_eq_true, selV]
      refine ifD_of (fun _ => hK _ _ ⟨rfl, rfl⟩) (fun hn => absurd he (Decidable.not_not.2 (by omega)))
    rintro s H6 ⟨rfl, rfl⟩
    try simp only [sv_cons, sv_cons1, sc_cons, sc_cons1, asB_bool, ifB_true, ifB_false, un_not, bin_lss, bin_leq, bin_gtr, bin_geq, bin_eql, bin_neq, bin_add, bin_sub, bin_mul, ok_int, ok_bool, ok_slice, ok_str, ok_ptr, ok_map, ok_func, ok_iface, ok_nil, List.all_cons, List.all_nil, Bool.and_true, Bool.true_and, seg, setSeg, List.drop_succ_cons, List.drop_zero, List.take_succ_cons, List.take_zero, List.cons_append, List.nil_append, List.append_nil, List.length_cons, List.length_nil, List.drop_nil, List.size_toArray, Nat.reduceAdd, Nat.reduceLeDiff, Nat.reduceBEq, Nat.zero_add, Nat.le_refl, decide_true, mkV, List.headD_cons, cellsV, w_fldV, w_ext, w_fldP, List.getElem?_toArray, List.getElem?_cons_zero, List.getElem?_cons_succ, beq_self_eq_true, selV]
    exact hbad he _ gz

end Go.Proofs.Ytelfpkegpffajaa
