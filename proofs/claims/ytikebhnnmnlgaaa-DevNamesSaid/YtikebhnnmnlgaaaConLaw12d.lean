/- The chapter's first examples. -/
import Derived.Test.YtikebhnnmnlgaaaConLaw12c
import Derived.Test.YtikebhnnmnlgaaaAbMore
namespace Go.Proofs.Ytikebhnnmnlgaaa
open Go.Ab Go.Md
set_option linter.unusedVariables false
set_option linter.unusedSimpArgs false
set_option maxRecDepth 20000

variable {H : Heap} {Q : Value → Heap → Prop} {A B C : Nat → Prop}

def c8 : Cfg := ⟨8, 4, 2, 2, 8, 2, 2, 4, 2⟩
def txt (c : UInt8) : By := List.replicate 104 c
def d8 : Dv := blankD c8
def w8 : Dv := putAll d8 2 [3, 1] [txt 3, txt 1]

theorem c8_may : c8.may := by decide +kernel
theorem c8_err : c8.err = 0 := by unfold Cfg.err; rw [if_pos c8_may]
theorem d8_eq : (if c8.may then blankD c8 else []) = d8 := if_pos c8_may
theorem d8_mid : Mid d8 := by rw [← d8_eq]; exact mid_blank
theorem w8_err : wrE c8 d8 2 [3, 1] [txt 3, txt 1] = 0 := by decide +kernel
theorem r8_err : askE c8 w8 2 [1, 2] = 0 := by decide +kernel
theorem w8_mid : Mid w8 := mid_putAll d8_mid fun x hx => by
  simp only [List.mem_cons, List.not_mem_nil, or_false] at hx
  rcases hx with rfl | rfl <;> simp [txt]
theorem r8_got : [1, 2].map (bk w8 2) = [txt 1, List.replicate 104 0] := by decide +kernel

theorem w_eqI {q : IntKind} {a b : Int} {k : Value → Prop} (h : a = b) (hk : k (.bool true)) : binV (.int q) .eql (.int q a) (.int q b) k := by
  subst h
  rw [bin_eql, decide_eq_true rfl]; exact hk

theorem c_law12_eight (hQ : ∀ H', G H H' → Q (.agg (cCfg c8).toArray) H') : callV Try.prog (fnV fn_law12_eight) [] H Q := by
  apply S_law12_eight_of
  unfold S_law12_eight
  exact newT_of fun H1 g1 _ => hQ H1 g1

theorem set_fill {α : Type} {n i : Nat} {x y : α} (h : i < n) : (List.replicate i x ++ List.replicate (n - i) y).set i x = List.replicate (i + 1) x ++ List.replicate (n - (i + 1)) y := by
  apply List.ext_getElem?
  intro j
  simp only [List.getElem?_set, List.getElem?_append, List.getElem?_replicate, List.length_append, List.length_replicate]
  by_cases h1 : i = j
  · subst h1
    rw [if_pos rfl, if_pos (by omega), if_pos (by omega), if_pos (by omega)]
  · rw [if_neg h1]
    by_cases h2 : j < i
    · rw [if_pos h2, if_pos h2, if_pos (by omega), if_pos (by omega)]
    · rw [if_neg h2]
      by_cases h4 : j < i + 1
      · omega
      · rw [if_neg h4]
        by_cases h3 : j < n
        · rw [if_pos (by omega), if_pos (by omega)]
        · rw [if_neg (by omega), if_neg (by omega)]

theorem c_law12_text {c : UInt8} {x : Int} (hx : x = (c.toNat : Int)) (hQ : ∀ v H', Ow rU8 H' (H.size + 1) (fun _ => False) v (txt c) → G H H' → Q v H') : callV Try.prog (fnV fn_law12_text) [.int .u8 x] H Q := by
  subst hx
  apply S_law12_text_of
  unfold S_law12_text
  refine mk_zero (R := rU8) (A := fun _ => False) (m := 104) (x := 0) ⟨rfl, trivial⟩ rfl (by omega) (by omega) (by omega) fun v H1 hv g1 s1 => ?_
  have hv := hv.mono (A' := fun _ => False) fun y hy _ => hy.1
  refine loop_up 104 (fun i s H' => G H H' ∧ Ow rU8 H' (H.size + 1) (fun _ => False) v (List.replicate i c ++ List.replicate (104 - i) 0) ∧ s = [[.int .i64 (i : Int)]]) ⟨g1, by simpa using hv, rfl⟩ ?_
  rintro i s H2 K hi ⟨g, hv, rfl⟩ hK
  have hl : (List.replicate i c ++ List.replicate (104 - i) (0 : UInt8)).length = 104 := by simp; omega
  refine hv.len ?_
  rw [hl]
  try simp only [sv_cons, sv_cons1, sc_cons, sc_cons1, asB_bool, ifB_true, ifB_false, un_not, bin_lss, bin_leq, bin_gtr, bin_geq, bin_eql, bin_neq, bin_add, bin_sub, bin_mul, ok_int, ok_bool, ok_slice, ok_str, ok_ptr, ok_map, ok_func, ok_iface, ok_nil, List.all_cons, List.all_nil, Bool.and_true, Bool.true_and, seg, setSeg, List.drop_succ_cons, List.drop_zero, List.take_succ_cons, List.take_zero, List.cons_append, List.nil_append, List.append_nil, List.length_cons, List.length_nil, List.drop_nil, List.size_toArray, Nat.reduceAdd, Nat.reduceLeDiff, Nat.reduceBEq, Nat.zero_add, Nat.le_refl, decide_true, mkV, List.headD_cons, cellsV, w_fldV, w_ext, w_fldP, List.getElem?_toArray, List.getElem?_cons_zero, List.getElem?_cons_succ, beq_self_eq_true, selV]
  refine ifD_of (fun h1 => ?_) (fun h1 => ?_)
  · refine hv.put (u := .int .u8 (c.toNat : Int)) (x := c) ⟨[_], rfl, rfl, trivial⟩ rfl (fun _ => rfl) (by omega) (fun y hy _ => hy.elim) fun H3 hv' f s => ?_
    rw [set_fill (by omega)] at hv'
    try simp only [sv_cons, sv_cons1, sc_cons, sc_cons1, asB_bool, ifB_true, ifB_false, un_not, bin_lss, bin_leq, bin_gtr, bin_geq, bin_eql, bin_neq, bin_add, bin_sub, bin_mul, ok_int, ok_bool, ok_slice, ok_str, ok_ptr, ok_map, ok_func, ok_iface, ok_nil, List.all_cons, List.all_nil, Bool.and_true, Bool.true_and, seg, setSeg, List.drop_succ_cons, List.drop_zero, List.take_succ_cons, List.take_zero, List.cons_append, List.nil_append, List.append_nil, List.length_cons, List.length_nil, List.drop_nil, List.size_toArray, Nat.reduceAdd, Nat.reduceLeDiff, Nat.reduceBEq, Nat.zero_add, Nat.le_refl, decide_true, mkV, List.headD_cons, cellsV, w_fldV, w_ext, w_fldP, List.getElem?_toArray, List.getElem?_cons_zero, List.getElem?_cons_succ, beq_self_eq_true, selV]
    rw [wrap_i64 (by unfold i64; omega)]
    refine hK _ _ (by omega) ⟨?_, hv', by simp⟩
    exact Fr.trans g f fun y hy _ => ⟨trivial, by omega⟩
  · have : i = 104 := by omega
    subst this
    have : Ow rU8 H2 (H.size + 1) (fun _ => False) v (txt c) := by simpa [txt] using hv
    exact hQ v H2 this g

/-- What is known while the first one is written. -/
structure Al (H0 : Heap) (v : Value) (a b c d : Option Value) (H : Heap) : Prop where
  g : G H0 H
  dv : Sl rBys H (fun _ => True) v d8
  ha : ∀ u, a = some u → Sl (rI .i64) H (fun _ => True) u [3, 1]
  hb : ∀ u, b = some u → Sl rU8 H (fun _ => True) u (txt 3)
  hc : ∀ u, c = some u → Sl rU8 H (fun _ => True) u (txt 1)
  hd : ∀ u, d = some u → Sl rBy H (fun _ => True) u [txt 3, txt 1]

theorem Al.up {H0 H' : Heap} {v : Value} {a b c d : Option Value} (h : Al H0 v a b c d H) (g : G H H') : Al H0 v a b c d H' :=
  ⟨h.g.trans g, h.dv.g g, fun u e => (h.ha u e).g g, fun u e => (h.hb u e).g g, fun u e => (h.hc u e).g g, fun u e => (h.hd u e).g g⟩
theorem Al.new {H0 : Heap} {v : Value} {a b c d : Option Value} {k : Heap → Prop} (h : Al H0 v a b c d H) (hk : ∀ H', Al H0 v a b c d H' → k H') : newT H k := newT_of fun H' g _ => hk H' (h.up g)
theorem Al.eight {H0 : Heap} {v : Value} {a b c d : Option Value} (h : Al H0 v a b c d H) (hk : ∀ H', Al H0 v a b c d H' → Q (.agg (cCfg c8).toArray) H') : callV Try.prog (fnV fn_law12_eight) [] H Q := c_law12_eight fun H' g => hk H' (h.up g)
theorem Al.t3 {H0 : Heap} {v : Value} {a c d : Option Value} (h : Al H0 v a none c d H) (hk : ∀ u H', Al H0 v a (some u) c d H' → Q u H') : callV Try.prog (fnV fn_law12_text) [.int .u8 3] H Q :=
  c_law12_text (c := 3) rfl fun u H' hu g => hk u H' ⟨h.g.trans g, h.dv.g g, fun u e => (h.ha u e).g g, fun w e => by cases e; exact hu.slF fun _ _ => trivial, fun u e => (h.hc u e).g g, fun u e => (h.hd u e).g g⟩
theorem Al.t1 {H0 : Heap} {v : Value} {a b d : Option Value} (h : Al H0 v a b none d H) (hk : ∀ u H', Al H0 v a b (some u) d H' → Q u H') : callV Try.prog (fnV fn_law12_text) [.int .u8 1] H Q :=
  c_law12_text (c := 1) rfl fun u H' hu g => hk u H' ⟨h.g.trans g, h.dv.g g, fun u e => (h.ha u e).g g, fun u e => (h.hb u e).g g, fun w e => by cases e; exact hu.slF fun _ _ => trivial, fun u e => (h.hd u e).g g⟩
theorem Al.ints {H0 : Heap} {v : Value} {b c d : Option Value} {e : Nat} {z : List Value} (h : Al H0 v none b c d H) (hk : ∀ u H', Al H0 v (some u) b c d H' → Q u H') : bldS e 1 false z 2 [(0, .int .i64 3), (1, .int .i64 1)] H Q :=
  bld_I (q := .i64) [3, 1] (by decide) rfl fun u H' hu g _ => hk u H' ⟨h.g.trans g, h.dv.g g, fun w e => by cases e; exact hu.slF fun _ _ => trivial, fun u e => (h.hb u e).g g, fun u e => (h.hc u e).g g, fun u e => (h.hd u e).g g⟩
theorem Al.two {H0 : Heap} {v x y : Value} {a : Option Value} {e : Nat} {z : List Value} (h : Al H0 v a (some x) (some y) none H) (hk : ∀ u H', Al H0 v a (some x) (some y) (some u) H' → Q u H') : bldS e 1 false z 2 [(0, x), (1, y)] H Q :=
  bld_all (R := rBy) (.cons (vrep_S (h.hb x rfl)) (.cons (vrep_S (h.hc y rfl)) .nil)) rfl (fun _ => rfl) rfl fun u H' hu g _ =>
    hk u H' ⟨h.g.trans g, h.dv.g g, fun u e => (h.ha u e).g g, fun u e => (h.hb u e).g g, fun u e => (h.hc u e).g g, fun w e => by cases e; exact hu.sl (fun _ _ _ => trivial) fun _ _ => trivial⟩
structure Al2 (H0 : Heap) (p l : Value) (H : Heap) : Prop where
  g : G H0 H
  dv : Sl rBys H (fun _ => True) p w8
  ss : Sl rSee H (fun _ => True) l (seesW 2 [3, 1] [txt 3, txt 1])
theorem Al2.new {H0 : Heap} {p l : Value} {k : Heap → Prop} (h : Al2 H0 p l H) (hk : ∀ H', Al2 H0 p l H' → k H') : newT H k := newT_of fun H' g _ => hk H' ⟨h.g.trans g, h.dv.g g, h.ss.g g⟩

theorem Al.write {H0 : Heap} {v x y z w : Value} (h : Al H0 v (some x) (some y) (some z) (some w) H) (hk : ∀ p l H', okc p = true → Al2 H0 p l H' → Q (tup3 (.agg #[p]) l (.int .i64 0)) H') :
    callV Try.prog (fnV fn_dev_Write) [.agg (cCfg c8).toArray, .agg #[v], .int .i64 2, x, w] H Q :=
  c_dev_Write h.dv (h.ha x rfl) (h.hd w rfl) d8_mid (by decide) (by decide) (by intro x hx; simp only [List.mem_cons, List.not_mem_nil, or_false] at hx; rcases hx with rfl | rfl <;> simp [txt]) fun p l O F b H' hw g => by
    rw [w8_err] at hw ⊢
    exact hk p l H' hw.dv.okcv ⟨h.g.trans g, hw.dv.sl fun _ _ => trivial, hw.ss.sl (fun _ _ _ => trivial) fun _ _ => trivial⟩

theorem c_law12_alive (hQ : ∀ H', G H H' → Q (.bool true) H') : callV Try.prog (fnV fn_law12_alive) [] H Q := by
  apply S_law12_alive_of
  unfold S_law12_alive
  refine c_law12_eight fun H1 g1 => ?_
  refine c_dev_New (c := c8) fun v H2 hv g2 => ?_
  rw [d8_eq] at hv
  rw [c8_err]
  try simp only [sv_cons, sv_cons1, sc_cons, sc_cons1, asB_bool, ifB_true, ifB_false, un_not, bin_lss, bin_leq, bin_gtr, bin_geq, bin_eql, bin_neq, bin_add, bin_sub, bin_mul, ok_int, ok_bool, ok_slice, ok_str, ok_ptr, ok_map, ok_func, ok_iface, ok_nil, List.all_cons, List.all_nil, Bool.and_true, Bool.true_and, seg, setSeg, List.drop_succ_cons, List.drop_zero, List.take_succ_cons, List.take_zero, List.cons_append, List.nil_append, List.append_nil, List.length_cons, List.length_nil, List.drop_nil, List.size_toArray, Nat.reduceAdd, Nat.reduceLeDiff, Nat.reduceBEq, Nat.zero_add, Nat.le_refl, decide_true, mkV, List.headD_cons, cellsV, w_fldV, w_ext, w_fldP, List.getElem?_toArray, List.getElem?_cons_zero, List.getElem?_cons_succ, beq_self_eq_true, selV]
  refine newT_of fun H3 g3 _ => ?_
  have g := (g1.trans g2).trans g3
  have hv := hv.g g3
  have hok := hv.okcv
  try simp only [sv_cons, sv_cons1, sc_cons, sc_cons1, asB_bool, ifB_true, ifB_false, un_not, bin_lss, bin_leq, bin_gtr, bin_geq, bin_eql, bin_neq, bin_add, bin_sub, bin_mul, ok_int, ok_bool, ok_slice, ok_str, ok_ptr, ok_map, ok_func, ok_iface, ok_nil, List.all_cons, List.all_nil, Bool.and_true, Bool.true_and, seg, setSeg, List.drop_succ_cons, List.drop_zero, List.take_succ_cons, List.take_zero, List.cons_append, List.nil_append, List.append_nil, List.length_cons, List.length_nil, List.drop_nil, List.size_toArray, Nat.reduceAdd, Nat.reduceLeDiff, Nat.reduceBEq, Nat.zero_add, Nat.le_refl, decide_true, mkV, List.headD_cons, cellsV, w_fldV, w_ext, w_fldP, List.getElem?_toArray, List.getElem?_cons_zero, List.getElem?_cons_succ, beq_self_eq_true, selV, hok]
  refine join_of (fun s H' => ∃ p l, Al2 H3 p l H' ∧ s = [[p], [l], [.int .i64 0]]) (fun K hK => ?_) ?_
  · have h : Al H3 v none none none none H3 := ⟨G.fr (Fr.refl _ _), hv.mono fun _ _ _ => trivial, (fun u e => by cases e), (fun u e => by cases e), (fun u e => by cases e), (fun u e => by cases e)⟩
    have fin : ∀ p l H', Al2 H3 p l H' → K [[p], [l], [.int .i64 0]] H' := fun p l H' h => hK _ _ ⟨p, l, h, rfl⟩
    clear hK
    repeat' first
      | with_reducible refine Al2.new (by assumption) fun H' h => ?_
      | with_reducible exact fin _ _ _ (by assumption)
      | with_reducible refine Al.new (by assumption) fun H' h => ?_
      | with_reducible refine Al.eight (by assumption) fun H' h => ?_
      | with_reducible refine Al.t3 (by assumption) fun u H' h => ?_
      | with_reducible refine Al.t1 (by assumption) fun u H' h => ?_
      | with_reducible refine Al.ints (by assumption) fun u H' h => ?_
      | with_reducible refine Al.two (by assumption) fun u H' h => ?_
      | (with_reducible refine Al.write (by assumption) fun p l H' hp h => ?_
         try simp only [sv_cons, sv_cons1, sc_cons, sc_cons1, asB_bool, ifB_true, ifB_false, un_not, bin_lss, bin_leq, bin_gtr, bin_geq, bin_eql, bin_neq, bin_add, bin_sub, bin_mul, ok_int, ok_bool, ok_slice, ok_str, ok_ptr, ok_map, ok_func, ok_iface, ok_nil, List.all_cons, List.all_nil, Bool.and_true, Bool.true_and, seg, setSeg, List.drop_succ_cons, List.drop_zero, List.take_succ_cons, List.take_zero, List.cons_append, List.nil_append, List.append_nil, List.length_cons, List.length_nil, List.drop_nil, List.size_toArray, Nat.reduceAdd, Nat.reduceLeDiff, Nat.reduceBEq, Nat.zero_add, Nat.le_refl, decide_true, mkV, List.headD_cons, cellsV, w_fldV, w_ext, w_fldP, List.getElem?_toArray, List.getElem?_cons_zero, List.getElem?_cons_succ, beq_self_eq_true, selV, hp])
      | with_reducible refine And.intro ?_ ?_
  rintro s H4 ⟨p, l, h, rfl⟩
  try simp only [sv_cons, sv_cons1, sc_cons, sc_cons1, asB_bool, ifB_true, ifB_false, un_not, bin_lss, bin_leq, bin_gtr, bin_geq, bin_eql, bin_neq, bin_add, bin_sub, bin_mul, ok_int, ok_bool, ok_slice, ok_str, ok_ptr, ok_map, ok_func, ok_iface, ok_nil, List.all_cons, List.all_nil, Bool.and_true, Bool.true_and, seg, setSeg, List.drop_succ_cons, List.drop_zero, List.take_succ_cons, List.take_zero, List.cons_append, List.nil_append, List.append_nil, List.length_cons, List.length_nil, List.drop_nil, List.size_toArray, Nat.reduceAdd, Nat.reduceLeDiff, Nat.reduceBEq, Nat.zero_add, Nat.le_refl, decide_true, mkV, List.headD_cons, cellsV, w_fldV, w_ext, w_fldP, List.getElem?_toArray, List.getElem?_cons_zero, List.getElem?_cons_succ, beq_self_eq_true, selV]
  refine join_of (fun s H' => ∃ q m, G H4 H' ∧ Sl rBy H' (fun _ => True) q [txt 1, List.replicate 104 0] ∧ Sl rSee H' (fun _ => True) m (seesR w8 2 [1, 2]) ∧ s = [[q], [m], [.int .i64 0]]) (fun K hK => ?_) ?_
  · have fin : ∀ u H', G H4 H' → Sl (rI .i64) H' (fun _ => True) u [1, 2] → callV Try.prog (fnV fn_dev_Read) [.agg (cCfg c8).toArray, .agg #[p], .int .i64 2, u] H' fun t H => extractV 0 t fun a => extractV 1 t fun b => extractV 2 t fun c => K [[a], [b], [c]] H := fun u H' g hu => by
      refine c_dev_Read (h.dv.g g) hu w8_mid (by decide) fun q m b1 b2 F ws H'' hr g' => ?_
      rw [r8_err, if_pos rfl, if_pos rfl, r8_got] at hr
      rw [r8_err]
      try simp only [sv_cons, sv_cons1, sc_cons, sc_cons1, asB_bool, ifB_true, ifB_false, un_not, bin_lss, bin_leq, bin_gtr, bin_geq, bin_eql, bin_neq, bin_add, bin_sub, bin_mul, ok_int, ok_bool, ok_slice, ok_str, ok_ptr, ok_map, ok_func, ok_iface, ok_nil, List.all_cons, List.all_nil, Bool.and_true, Bool.true_and, seg, setSeg, List.drop_succ_cons, List.drop_zero, List.take_succ_cons, List.take_zero, List.cons_append, List.nil_append, List.append_nil, List.length_cons, List.length_nil, List.drop_nil, List.size_toArray, Nat.reduceAdd, Nat.reduceLeDiff, Nat.reduceBEq, Nat.zero_add, Nat.le_refl, decide_true, mkV, List.headD_cons, cellsV, w_fldV, w_ext, w_fldP, List.getElem?_toArray, List.getElem?_cons_zero, List.getElem?_cons_succ, beq_self_eq_true, selV]
      refine hK _ _ ⟨q, m, g.trans g', ?_, hr.o2.sl (fun _ _ _ => trivial) fun _ _ => trivial, rfl⟩
      exact ((hr.o1.slF (A' := fun _ => True) fun _ _ => trivial).join (B := F) (hr.lf.imp fun u x hl => hl.1)).mono fun _ _ _ => trivial
    constructor
    · refine c_law12_eight fun H5 g5 => ?_
      exact bld_I (q := .i64) [1, 2] (by decide) rfl fun u H6 hu g6 _ => fin u H6 (g5.trans g6) (hu.slF fun _ _ => trivial)
    · refine bld_I (q := .i64) [1, 2] (by decide) rfl fun u H6 hu g6 _ => ?_
      exact c_law12_eight fun H5 g5 => fin u H5 (g6.trans g5) ((hu.slF fun _ _ => trivial).g g5)
  rintro s H5 ⟨q, m, g5, hq, hm, rfl⟩
  have gA := h.g.trans g5
  have hd := hv.g gA
  have hp := h.dv.g g5
  have hl := h.ss.g g5
  have e0 : d8.length = 3 := by decide +kernel
  have e1 : d8[0]? = some (List.replicate 15 (List.replicate 96 0)) := by decide +kernel
  have e2 : (seesW 2 [3, 1] [txt 3, txt 1]).length = 2 := rfl
  have e3 : (seesR w8 2 [1, 2]).length = 2 := rfl
  have e4 : (List.replicate 15 (List.replicate 96 (0 : UInt8)))[Int.toNat 0]? = some (List.replicate 96 0) := rfl
  refine join_of (fun s H' => G H5 H' ∧ s = [[.bool true]]) (fun K hK => ?_) ?_
  · refine hd.len (w_eqI (by rw [e0]; rfl) ?_)
    refine hd.atSZ (by decide) e1 fun p44 v45 h44 h45 => h44.load rfl (h45.len (w_eqI (by simp) ?_))
    refine hd.atSZ (by decide) e1 fun p52 v53 h52 h53 => h52.load rfl (h53.atSZ (by decide) e4 fun p54 v55 h54 h55 => h54.load rfl (h55.len (w_eqI (by simp) ?_)))
    refine hl.len (w_eqI (by rw [e2]; rfl) ?_)
    refine hm.len (w_eqI (by rw [e3]; rfl) ?_)
    have fin : ∀ u H', G H5 H' → Sl rBy H' (fun _ => True) u [txt 1, List.replicate 104 0] → ∀ k : Value → Heap → Prop, k (.bool true) H' → callV Try.prog (fnV fn_ref01_SameAll) [q, u] H' k := fun u H' g hu k hk => by
      refine c_ref01_SameAll (hq.g g) hu (by decide) ?_
      rw [decide_eq_true rfl]; exact hk
    have two : ∀ a b H' (k : Value → Heap → Prop), G H5 H' → Sl rU8 H' (fun _ => True) a (txt 1) → Sl rU8 H' (fun _ => True) b (List.replicate 104 0) → (∀ u H'', G H5 H'' → Sl rBy H'' (fun _ => True) u [txt 1, List.replicate 104 0] → k u H'') → ∀ e z, bldS e 1 false z 2 [(0, a), (1, b)] H' k := fun a b H' k g ha hb hk e z =>
      bld_all (R := rBy) (.cons (vrep_S ha) (.cons (vrep_S hb) .nil)) rfl (fun _ => rfl) rfl fun u H'' hu g' _ => hk u H'' (g.trans g') (hu.sl (fun _ _ _ => trivial) fun _ _ => trivial)
    constructor
    · refine c_law12_text (c := 1) rfl fun a H6 ha g6 => ?_
      refine ⟨hm.len rfl, hl.len rfl, h55.len rfl, (h54.g g6).load rfl rfl, (h52.g g6).load rfl rfl, h45.len rfl, (h44.g g6).load rfl rfl, hd.len rfl, ?_⟩
      refine mk_zero (R := rU8) (A := fun _ => False) (m := 104) (x := 0) ⟨rfl, trivial⟩ rfl (by omega) (by omega) (by omega) fun b H7 hb g7 _ => ?_
      have g67 := g6.trans g7
      refine ⟨hm.len rfl, hl.len rfl, h55.len rfl, (h54.g g67).load rfl rfl, (h52.g g67).load rfl rfl, h45.len rfl, (h44.g g67).load rfl rfl, hd.len rfl, ?_⟩
      refine two a b H7 _ g67 ((ha.slF fun _ _ => trivial).g g7) (hb.sl (fun _ _ _ => trivial) fun _ _ => trivial) (fun u H8 g8 hu => ?_) _ _
      refine ⟨hm.len rfl, hl.len rfl, h55.len rfl, (h54.g g8).load rfl rfl, (h52.g g8).load rfl rfl, h45.len rfl, (h44.g g8).load rfl rfl, hd.len rfl, ?_⟩
      refine fin u H8 g8 hu _ ?_
      exact ⟨hm.len rfl, hl.len rfl, h55.len rfl, (h54.g g8).load rfl rfl, (h52.g g8).load rfl rfl, h45.len rfl, (h44.g g8).load rfl rfl, hd.len rfl, hK _ _ ⟨g8, rfl⟩⟩
    · refine mk_zero (R := rU8) (A := fun _ => False) (m := 104) (x := 0) ⟨rfl, trivial⟩ rfl (by omega) (by omega) (by omega) fun b H6 hb g6 _ => ?_
      refine ⟨hm.len rfl, hl.len rfl, h55.len rfl, (h54.g g6).load rfl rfl, (h52.g g6).load rfl rfl, h45.len rfl, (h44.g g6).load rfl rfl, hd.len rfl, ?_⟩
      refine c_law12_text (c := 1) rfl fun a H7 ha g7 => ?_
      have g67 := g6.trans g7
      refine ⟨hm.len rfl, hl.len rfl, h55.len rfl, (h54.g g67).load rfl rfl, (h52.g g67).load rfl rfl, h45.len rfl, (h44.g g67).load rfl rfl, hd.len rfl, ?_⟩
      refine two a b H7 _ g67 (ha.slF fun _ _ => trivial) ((hb.sl (A' := fun _ => True) (fun _ _ _ => trivial) fun _ _ => trivial).g g7) (fun u H8 g8 hu => ?_) _ _
      refine ⟨hm.len rfl, hl.len rfl, h55.len rfl, (h54.g g8).load rfl rfl, (h52.g g8).load rfl rfl, h45.len rfl, (h44.g g8).load rfl rfl, hd.len rfl, ?_⟩
      refine fin u H8 g8 hu _ ?_
      exact ⟨hm.len rfl, hl.len rfl, h55.len rfl, (h54.g g8).load rfl rfl, (h52.g g8).load rfl rfl, h45.len rfl, (h44.g g8).load rfl rfl, hd.len rfl, hK _ _ ⟨g8, rfl⟩⟩
  rintro s H6 ⟨g6, rfl⟩
  exact hQ _ ((g.trans gA).trans g6)

end Go.Proofs.Ytikebhnnmnlgaaa
