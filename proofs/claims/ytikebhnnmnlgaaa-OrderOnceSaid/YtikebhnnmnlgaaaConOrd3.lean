/- Contracts: which cells are told. -/
import Derived.Test.YtikebhnnmnlgaaaConOrd2
namespace Go.Proofs.Ytikebhnnmnlgaaa
open Go.Ab Go.Md
set_option linter.unusedVariables false
set_option linter.unusedSimpArgs false
set_option maxRecDepth 20000

variable {H : Heap} {Q : Value → Heap → Prop} {A B C : Nat → Prop}

theorem c_order_each_Level {ls : List Lvl} {a fv : Value} {f : Nat → List Int} (ha : Sl rLvl H A a ls) (hl : ls.length ≤ 64)
    (hf : ∀ i l H1 (K : Value → Heap → Prop), ls[i]? = some l → G H H1 → (∀ u H2, Sl (rI .i64) H2 (fun y => H1.size ≤ y) u (f i) → G H1 H2 → K u H2) → callV Try.prog fv [.int .i64 (i : Int), .agg (cLvl l).toArray] H1 K)
    (hQ : ∀ v H', Sl (rSl (rI .i64)) H' (fun y => H.size ≤ y) v ((List.range ls.length).map f) → G H H' → Q v H') : callV Try.prog (fnV fn_order_each_api_Level_int) [a, fv] H Q := by
  apply S_order_each_api_Level_int_of
  unfold S_order_each_api_Level_int
  refine ha.len ?_
  refine loop_up ls.length (fun i s H' => ∃ v, Bd (rSl (rI .i64)) H H' v ((List.range i).map f) ∧ s = [[v], [.int .i64 (i : Int)]]) ⟨_, Bd.nil _ (G.fr (Fr.refl _ H)), rfl⟩ ?_
  rintro i s H1 K hi ⟨v, hv, rfl⟩ hK
  try simp only [sv_cons, sv_cons1, sc_cons, sc_cons1, asB_bool, ifB_true, ifB_false, un_not, bin_lss, bin_leq, bin_gtr, bin_geq, bin_eql, bin_neq, bin_add, bin_sub, bin_mul, ok_int, ok_bool, ok_slice, ok_str, ok_ptr, ok_map, ok_func, ok_iface, ok_nil, List.all_cons, List.all_nil, Bool.and_true, Bool.true_and, seg, setSeg, List.drop_succ_cons, List.drop_zero, List.take_succ_cons, List.take_zero, List.cons_append, List.nil_append, List.append_nil, List.length_cons, List.length_nil, List.drop_nil, List.size_toArray, Nat.reduceAdd, Nat.reduceLeDiff, Nat.reduceBEq, Nat.zero_add, Nat.le_refl, decide_true, mkV, List.headD_cons, cellsV, w_fldV, w_ext, w_fldP, List.getElem?_toArray, List.getElem?_cons_zero, List.getElem?_cons_succ, beq_self_eq_true, selV]
  refine ifD_of (fun h1 => ?_) (fun h1 => ?_)
  · have hlt : i < ls.length := by omega
    refine (ha.g hv.g).get rfl (List.getElem?_eq_getElem hlt) fun cs hr => ?_
    obtain ⟨rfl, _⟩ := hr
    refine newT_of fun H2 g2 _ => ?_
    try simp only [sv_cons, sv_cons1, sc_cons, sc_cons1, asB_bool, ifB_true, ifB_false, un_not, bin_lss, bin_leq, bin_gtr, bin_geq, bin_eql, bin_neq, bin_add, bin_sub, bin_mul, ok_int, ok_bool, ok_slice, ok_str, ok_ptr, ok_map, ok_func, ok_iface, ok_nil, List.all_cons, List.all_nil, Bool.and_true, Bool.true_and, seg, setSeg, List.drop_succ_cons, List.drop_zero, List.take_succ_cons, List.take_zero, List.cons_append, List.nil_append, List.append_nil, List.length_cons, List.length_nil, List.drop_nil, List.size_toArray, Nat.reduceAdd, Nat.reduceLeDiff, Nat.reduceBEq, Nat.zero_add, Nat.le_refl, decide_true, mkV, List.headD_cons, cellsV, w_fldV, w_ext, w_fldP, List.getElem?_toArray, List.getElem?_cons_zero, List.getElem?_cons_succ, beq_self_eq_true, selV]
    refine hf i _ H2 _ (List.getElem?_eq_getElem hlt) (hv.g.trans g2) fun u H3 hu g3 => ?_
    have lr : ((List.range i).map f).length = i := by simp
    have er : (List.range i).map f ++ [f i] = (List.range (i + 1)).map f := by simp [List.range_succ]
    refine (hv.up g2).push g3 (vrep_S hu) rfl (by omega) (fun _ => rfl) rfl rfl (fun y hy _ => hy) (by rw [lr]; omega) (by rw [lr]; omega) fun w H4 hw => ?_
    try simp only [sv_cons, sv_cons1, sc_cons, sc_cons1, asB_bool, ifB_true, ifB_false, un_not, bin_lss, bin_leq, bin_gtr, bin_geq, bin_eql, bin_neq, bin_add, bin_sub, bin_mul, ok_int, ok_bool, ok_slice, ok_str, ok_ptr, ok_map, ok_func, ok_iface, ok_nil, List.all_cons, List.all_nil, Bool.and_true, Bool.true_and, seg, setSeg, List.drop_succ_cons, List.drop_zero, List.take_succ_cons, List.take_zero, List.cons_append, List.nil_append, List.append_nil, List.length_cons, List.length_nil, List.drop_nil, List.size_toArray, Nat.reduceAdd, Nat.reduceLeDiff, Nat.reduceBEq, Nat.zero_add, Nat.le_refl, decide_true, mkV, List.headD_cons, cellsV, w_fldV, w_ext, w_fldP, List.getElem?_toArray, List.getElem?_cons_zero, List.getElem?_cons_succ, beq_self_eq_true, selV]
    rw [wrap_i64 (by unfold i64; omega)]
    rw [er] at hw
    exact hK _ _ hlt ⟨w, hw, by simp⟩
  · have : i = ls.length := by omega
    subst this
    exact hQ v H1 hv.sl hv.g

theorem c_order_each_Unit {l : List Unt} {a fv : Value} {r : Nat} {I : Nat → Heap → Prop} {f : Nat → Int} (ha : Sl rUnt H A a l) (hr : r < H.size) (hAr : ∀ y, A y → y < H.size → y ≠ r) (hl : l.length ≤ 512) (hw : ∀ i, i < l.length → i64 (f i))
    (h0 : I 0 H) (hI : ∀ i H1 H2, I i H1 → Fr (fun y => y < H.size) H1 H2 → I i H2)
    (hf : ∀ i u v H1 (K : Value → Heap → Prop), l[i]? = some u → I i H1 → H.size ≤ H1.size → (∀ H2, I (i + 1) H2 → Fr (fun y => y ≠ r) H1 H2 → K (.int .i64 (f i)) H2) →
      callV Try.prog fv [.int .i64 (i : Int), .agg #[.int .u8 u.kind, .int .i64 u.page, .int .i64 u.frame, v]] H1 K)
    (hQ : ∀ v H', Sl (rI .i64) H' (fun y => H.size ≤ y) v ((List.range l.length).map f) → Fr (fun y => y ≠ r) H H' → Q v H') : callV Try.prog (fnV fn_order_each_api_Unit_int) [a, fv] H Q := by
  apply S_order_each_api_Unit_int_of
  unfold S_order_each_api_Unit_int
  refine ha.len ?_
  refine loop_up l.length (fun i s H' => I i H' ∧ Fr (fun y => y ≠ r) H H' ∧ ∃ b v, Ow (rI .i64) H' b (fun _ => False) v ((List.range i).map f) ∧ (b = 0 ∨ H.size < b) ∧ s = [[v], [.int .i64 (i : Int)]])
    ⟨h0, Fr.refl _ _, 0, _, Ow.nil _ _ _, .inl rfl, rfl⟩ ?_
  rintro i s H1 K hi ⟨hi1, f1, b, v, hv, hb, rfl⟩ hK
  try simp only [sv_cons, sv_cons1, sc_cons, sc_cons1, asB_bool, ifB_true, ifB_false, un_not, bin_lss, bin_leq, bin_gtr, bin_geq, bin_eql, bin_neq, bin_add, bin_sub, bin_mul, ok_int, ok_bool, ok_slice, ok_str, ok_ptr, ok_map, ok_func, ok_iface, ok_nil, List.all_cons, List.all_nil, Bool.and_true, Bool.true_and, seg, setSeg, List.drop_succ_cons, List.drop_zero, List.take_succ_cons, List.take_zero, List.cons_append, List.nil_append, List.append_nil, List.length_cons, List.length_nil, List.drop_nil, List.size_toArray, Nat.reduceAdd, Nat.reduceLeDiff, Nat.reduceBEq, Nat.zero_add, Nat.le_refl, decide_true, mkV, List.headD_cons, cellsV, w_fldV, w_ext, w_fldP, List.getElem?_toArray, List.getElem?_cons_zero, List.getElem?_cons_succ, beq_self_eq_true, selV]
  refine ifD_of (fun h1 => ?_) (fun h1 => ?_)
  · have hlt : i < l.length := by omega
    have hx : l[i]? = some l[i] := List.getElem?_eq_getElem hlt
    have hs1 := f1.size
    refine (ha.up f1 fun y hy hlt => ⟨hAr y hy hlt, hy⟩).get rfl hx fun cs hrel => ?_
    obtain ⟨w, rfl, hwd⟩ := hrel
    refine newT_of fun H2 g2 _ => ?_
    have hok := hwd.okcv
    try simp only [sv_cons, sv_cons1, sc_cons, sc_cons1, asB_bool, ifB_true, ifB_false, un_not, bin_lss, bin_leq, bin_gtr, bin_geq, bin_eql, bin_neq, bin_add, bin_sub, bin_mul, ok_int, ok_bool, ok_slice, ok_str, ok_ptr, ok_map, ok_func, ok_iface, ok_nil, List.all_cons, List.all_nil, Bool.and_true, Bool.true_and, seg, setSeg, List.drop_succ_cons, List.drop_zero, List.take_succ_cons, List.take_zero, List.cons_append, List.nil_append, List.append_nil, List.length_cons, List.length_nil, List.drop_nil, List.size_toArray, Nat.reduceAdd, Nat.reduceLeDiff, Nat.reduceBEq, Nat.zero_add, Nat.le_refl, decide_true, mkV, List.headD_cons, cellsV, w_fldV, w_ext, w_fldP, List.getElem?_toArray, List.getElem?_cons_zero, List.getElem?_cons_succ, beq_self_eq_true, selV, hok]
    have hs2 := g2.size
    refine hf i _ w H2 _ hx (hI i H1 H2 hi1 g2.fr) (by omega) fun H3 hi3 f3 => ?_
    have lr : ((List.range i).map f).length = i := by simp
    have er : (List.range i).map f ++ [f i] = (List.range (i + 1)).map f := by simp [List.range_succ]
    have hv3 := (hv.g g2).upF f3 fun k hk => show k ≠ r by omega
    have hs3 := f3.size
    refine hv3.push (vrep_I (A := fun _ => False) (wrap_i64 (hw i hlt))) rfl (by omega) (fun _ => rfl) rfl rfl (fun y hy _ => by simp at hy) (by rw [lr]; omega) (by rw [lr]; omega) fun u H4 b' hu f4 hb' _ => ?_
    rw [er] at hu
    have hu := hu.mono (A' := fun _ => False) fun y hy _ => by simp at hy
    try simp only [sv_cons, sv_cons1, sc_cons, sc_cons1, asB_bool, ifB_true, ifB_false, un_not, bin_lss, bin_leq, bin_gtr, bin_geq, bin_eql, bin_neq, bin_add, bin_sub, bin_mul, ok_int, ok_bool, ok_slice, ok_str, ok_ptr, ok_map, ok_func, ok_iface, ok_nil, List.all_cons, List.all_nil, Bool.and_true, Bool.true_and, seg, setSeg, List.drop_succ_cons, List.drop_zero, List.take_succ_cons, List.take_zero, List.cons_append, List.nil_append, List.append_nil, List.length_cons, List.length_nil, List.drop_nil, List.size_toArray, Nat.reduceAdd, Nat.reduceLeDiff, Nat.reduceBEq, Nat.zero_add, Nat.le_refl, decide_true, mkV, List.headD_cons, cellsV, w_fldV, w_ext, w_fldP, List.getElem?_toArray, List.getElem?_cons_zero, List.getElem?_cons_succ, beq_self_eq_true, selV]
    rw [wrap_i64 (by unfold i64; omega)]
    refine hK _ _ hlt ⟨hI (i + 1) H3 H4 hi3 (f4.mono fun y _ (hy : y < H.size) => by omega), ?_, b', u, hu, by omega, by simp⟩
    refine Fr.trans (Fr.trans (C := fun y => y ≠ r) f1 g2 fun y _ hy => ⟨hy, trivial⟩) (Fr.trans (C := fun y => y ≠ r ∧ y < H.size) f3 f4 fun y _ hy => ⟨hy.1, by have := hy.2; omega⟩) fun y hlt hy => ⟨hy, hy, hlt⟩
  · have : i = l.length := by omega
    subst this
    exact hQ v H1 (hv.slF fun k hk => by omega) f1

def mst (F : Nat → Int) (t : Nat) : Int → Option Value := fun b => if b < 0 then none else Option.map (fun j : Nat => Value.int .i64 (j : Int)) (lastIdx F b t)

theorem mst_none {F : Nat → Int} {t : Nat} (h : F t < 0) : mst F (t + 1) = mst F t := by
  funext b
  unfold mst
  split
  · rfl
  · rw [lastIdx_succ, if_neg (by omega)]
theorem mst_put {F : Nat → Int} {t : Nat} (h : 0 ≤ F t) : (fun y => if y = F t then some (.int .i64 (t : Int)) else mst F t y) = mst F (t + 1) := by
  funext b
  unfold mst
  by_cases hb : b = F t
  · rw [if_pos hb, if_neg (by omega), lastIdx_succ, if_pos hb.symm]; rfl
  · rw [if_neg hb, lastIdx_succ, if_neg (fun e : F t = b => hb e.symm)]

theorem c_order_Cells_1_1 {c : Cfg} {l : List Unt} {u : Unt} {w : Value} {t i a2 a7 a4 r : Nat} (hm : c.may) (hall : ∀ u ∈ l, mayU c u = true) (hn : l.length ≤ 512) (hi : i < c.all.length) (hu : l[t]? = some u)
    (h2 : Bx H a2 (cCfg c)) (h7 : Bx H a7 [.map (some r)]) (h4 : Bx H a4 [.int .i64 (i : Int)]) (hr : Mp H r .i64 (mst (blkAt c l i) t))
    (hQ : ∀ H', Mp H' r .i64 (mst (blkAt c l i) (t + 1)) → Fr (fun y => y ≠ r) H H' → Q (.int .i64 (toldF (blkAt c l i) t)) H') :
    callV Try.prog (.func (.func fn_order_Cells_1_1) #[] #[.pointer (some ⟨a2, 0, none⟩), .pointer (some ⟨a7, 0, none⟩), .pointer (some ⟨a4, 0, none⟩)]) [.int .i64 (t : Int), .agg #[.int .u8 u.kind, .int .i64 u.page, .int .i64 u.frame, w]] H Q := by
  apply C_order_Cells_1_1_of
  unfold S_order_Cells_1_1
  have ht := (List.getElem?_eq_some_iff.1 hu).1
  have hu' : l[t] = u := (List.getElem?_eq_some_iff.1 hu).2
  have hb : blkAt c l i t = blkU c i u := by rw [blkAt_eq ht, hu']
  have hum : mayU c u = true := hall u (List.mem_of_getElem? hu)
  refine newT_of fun H1 g1 _ => ?_
  try simp only [sv_cons, sv_cons1, sc_cons, sc_cons1, asB_bool, ifB_true, ifB_false, un_not, bin_lss, bin_leq, bin_gtr, bin_geq, bin_eql, bin_neq, bin_add, bin_sub, bin_mul, ok_int, ok_bool, ok_slice, ok_str, ok_ptr, ok_map, ok_func, ok_iface, ok_nil, List.all_cons, List.all_nil, Bool.and_true, Bool.true_and, seg, setSeg, List.drop_succ_cons, List.drop_zero, List.take_succ_cons, List.take_zero, List.cons_append, List.nil_append, List.append_nil, List.length_cons, List.length_nil, List.drop_nil, List.size_toArray, Nat.reduceAdd, Nat.reduceLeDiff, Nat.reduceBEq, Nat.zero_add, Nat.le_refl, decide_true, mkV, List.headD_cons, cellsV, w_fldV, w_ext, w_fldP, List.getElem?_toArray, List.getElem?_cons_zero, List.getElem?_cons_succ, beq_self_eq_true, selV]
  refine ifD_of (fun h => ?_) (fun h => ?_)
  · have hneg : blkAt c l i t < 0 := by rw [hb]; unfold blkU; rw [if_pos h]; omega
    rw [wrap_i64 (x := 2 * (t : Int)) (by unfold i64; omega)]
    try simp only [sv_cons, sv_cons1, sc_cons, sc_cons1, asB_bool, ifB_true, ifB_false, un_not, bin_lss, bin_leq, bin_gtr, bin_geq, bin_eql, bin_neq, bin_add, bin_sub, bin_mul, ok_int, ok_bool, ok_slice, ok_str, ok_ptr, ok_map, ok_func, ok_iface, ok_nil, List.all_cons, List.all_nil, Bool.and_true, Bool.true_and, seg, setSeg, List.drop_succ_cons, List.drop_zero, List.take_succ_cons, List.take_zero, List.cons_append, List.nil_append, List.append_nil, List.length_cons, List.length_nil, List.drop_nil, List.size_toArray, Nat.reduceAdd, Nat.reduceLeDiff, Nat.reduceBEq, Nat.zero_add, Nat.le_refl, decide_true, mkV, List.headD_cons, cellsV, w_fldV, w_ext, w_fldP, List.getElem?_toArray, List.getElem?_cons_zero, List.getElem?_cons_succ, beq_self_eq_true, selV]
    rw [wrap_i64 (by unfold i64; omega)]
    have := hQ H1 (by rw [mst_none hneg]; exact hr.g g1) g1.fr
    unfold toldF at this
    rw [if_pos hneg] at this
    exact this
  · have hp := mayU_page hum h
    have hpg := hm.1.1
    have hbv : blkAt c l i t = pAt c.fan i u.page := by rw [hb]; unfold blkU; rw [if_neg h]
    have hnn : 0 ≤ blkAt c l i t := by rw [hbv]; exact (pAt_small hm.1 (by omega) i).1
    refine (h2.g g1).load rfl ?_
    try simp only [sv_cons, sv_cons1, sc_cons, sc_cons1, asB_bool, ifB_true, ifB_false, un_not, bin_lss, bin_leq, bin_gtr, bin_geq, bin_eql, bin_neq, bin_add, bin_sub, bin_mul, ok_int, ok_bool, ok_slice, ok_str, ok_ptr, ok_map, ok_func, ok_iface, ok_nil, List.all_cons, List.all_nil, Bool.and_true, Bool.true_and, seg, setSeg, List.drop_succ_cons, List.drop_zero, List.take_succ_cons, List.take_zero, List.cons_append, List.nil_append, List.append_nil, List.length_cons, List.length_nil, List.drop_nil, List.size_toArray, Nat.reduceAdd, Nat.reduceLeDiff, Nat.reduceBEq, Nat.zero_add, Nat.le_refl, decide_true, mkV, List.headD_cons, cellsV, w_fldV, w_ext, w_fldP, List.getElem?_toArray, List.getElem?_cons_zero, List.getElem?_cons_succ, beq_self_eq_true, selV]
    refine c_conf_Road (c := c) fun bl pl H2 hbl hpl g2 => ?_
    have hre : roadE c u.page = 0 := by unfold roadE; rw [if_pos hm, if_neg (by omega)]
    rw [hre, if_pos rfl] at hbl
    try simp only [sv_cons, sv_cons1, sc_cons, sc_cons1, asB_bool, ifB_true, ifB_false, un_not, bin_lss, bin_leq, bin_gtr, bin_geq, bin_eql, bin_neq, bin_add, bin_sub, bin_mul, ok_int, ok_bool, ok_slice, ok_str, ok_ptr, ok_map, ok_func, ok_iface, ok_nil, List.all_cons, List.all_nil, Bool.and_true, Bool.true_and, seg, setSeg, List.drop_succ_cons, List.drop_zero, List.take_succ_cons, List.take_zero, List.cons_append, List.nil_append, List.append_nil, List.length_cons, List.length_nil, List.drop_nil, List.size_toArray, Nat.reduceAdd, Nat.reduceLeDiff, Nat.reduceBEq, Nat.zero_add, Nat.le_refl, decide_true, mkV, List.headD_cons, cellsV, w_fldV, w_ext, w_fldP, List.getElem?_toArray, List.getElem?_cons_zero, List.getElem?_cons_succ, beq_self_eq_true, selV]
    have g := g1.trans g2
    refine (h7.g g).load rfl ((h4.g g).load rfl ?_)
    have hget := blocks_get (p := u.page) hi
    rw [← hbv] at hget
    refine hbl.getI hget fun _ => ?_
    refine (hr.g g).get ?_
    try simp only [sv_cons, sv_cons1, sc_cons, sc_cons1, asB_bool, ifB_true, ifB_false, un_not, bin_lss, bin_leq, bin_gtr, bin_geq, bin_eql, bin_neq, bin_add, bin_sub, bin_mul, ok_int, ok_bool, ok_slice, ok_str, ok_ptr, ok_map, ok_func, ok_iface, ok_nil, List.all_cons, List.all_nil, Bool.and_true, Bool.true_and, seg, setSeg, List.drop_succ_cons, List.drop_zero, List.take_succ_cons, List.take_zero, List.cons_append, List.nil_append, List.append_nil, List.length_cons, List.length_nil, List.drop_nil, List.size_toArray, Nat.reduceAdd, Nat.reduceLeDiff, Nat.reduceBEq, Nat.zero_add, Nat.le_refl, decide_true, mkV, List.headD_cons, cellsV, w_fldV, w_ext, w_fldP, List.getElem?_toArray, List.getElem?_cons_zero, List.getElem?_cons_succ, beq_self_eq_true, selV]
    refine (h7.g g).load rfl ((h4.g g).load rfl ?_)
    refine hbl.getI hget fun _ => ?_
    refine (hr.g g).put (x := .int .i64 (t : Int)) fun H3 hr3 f3 s3 => ?_
    rw [mst_put hnn] at hr3
    have hfin := hQ H3 hr3 (Fr.trans g f3 fun y _ hy => ⟨trivial, hy⟩)
    unfold toldF at hfin
    rw [if_neg (by omega)] at hfin
    unfold mst
    rw [if_neg (by omega)]
    have hrange := fun j (hj : lastIdx (blkAt c l i) (blkAt c l i t) t = some j) => (lastIdx_some hj).1
    cases hla : lastIdx (blkAt c l i) (blkAt c l i t) t with
    | none =>
      rw [hla] at hfin
      try simp only [sv_cons, sv_cons1, sc_cons, sc_cons1, asB_bool, ifB_true, ifB_false, un_not, bin_lss, bin_leq, bin_gtr, bin_geq, bin_eql, bin_neq, bin_add, bin_sub, bin_mul, ok_int, ok_bool, ok_slice, ok_str, ok_ptr, ok_map, ok_func, ok_iface, ok_nil, List.all_cons, List.all_nil, Bool.and_true, Bool.true_and, seg, setSeg, List.drop_succ_cons, List.drop_zero, List.take_succ_cons, List.take_zero, List.cons_append, List.nil_append, List.append_nil, List.length_cons, List.length_nil, List.drop_nil, List.size_toArray, Nat.reduceAdd, Nat.reduceLeDiff, Nat.reduceBEq, Nat.zero_add, Nat.le_refl, decide_true, mkV, List.headD_cons, cellsV, w_fldV, w_ext, w_fldP, List.getElem?_toArray, List.getElem?_cons_zero, List.getElem?_cons_succ, beq_self_eq_true, selV, Option.map_none, Option.isSome_none, ifB_false]
      rw [wrap_i64 (x := 2 * (t : Int)) (by unfold i64; omega)]
      try simp only [sv_cons, sv_cons1, sc_cons, sc_cons1, asB_bool, ifB_true, ifB_false, un_not, bin_lss, bin_leq, bin_gtr, bin_geq, bin_eql, bin_neq, bin_add, bin_sub, bin_mul, ok_int, ok_bool, ok_slice, ok_str, ok_ptr, ok_map, ok_func, ok_iface, ok_nil, List.all_cons, List.all_nil, Bool.and_true, Bool.true_and, seg, setSeg, List.drop_succ_cons, List.drop_zero, List.take_succ_cons, List.take_zero, List.cons_append, List.nil_append, List.append_nil, List.length_cons, List.length_nil, List.drop_nil, List.size_toArray, Nat.reduceAdd, Nat.reduceLeDiff, Nat.reduceBEq, Nat.zero_add, Nat.le_refl, decide_true, mkV, List.headD_cons, cellsV, w_fldV, w_ext, w_fldP, List.getElem?_toArray, List.getElem?_cons_zero, List.getElem?_cons_succ, beq_self_eq_true, selV]
      rw [wrap_i64 (by unfold i64; omega)]
      exact hfin
    | some j =>
      have := hrange j hla
      rw [hla] at hfin
      try simp only [sv_cons, sv_cons1, sc_cons, sc_cons1, asB_bool, ifB_true, ifB_false, un_not, bin_lss, bin_leq, bin_gtr, bin_geq, bin_eql, bin_neq, bin_add, bin_sub, bin_mul, ok_int, ok_bool, ok_slice, ok_str, ok_ptr, ok_map, ok_func, ok_iface, ok_nil, List.all_cons, List.all_nil, Bool.and_true, Bool.true_and, seg, setSeg, List.drop_succ_cons, List.drop_zero, List.take_succ_cons, List.take_zero, List.cons_append, List.nil_append, List.append_nil, List.length_cons, List.length_nil, List.drop_nil, List.size_toArray, Nat.reduceAdd, Nat.reduceLeDiff, Nat.reduceBEq, Nat.zero_add, Nat.le_refl, decide_true, mkV, List.headD_cons, cellsV, w_fldV, w_ext, w_fldP, List.getElem?_toArray, List.getElem?_cons_zero, List.getElem?_cons_succ, beq_self_eq_true, selV, Option.map_some, Option.isSome_some, ifB_true, Option.getD_some]
      rw [wrap_i64 (x := 2 * (j : Int)) (by unfold i64; omega)]
      exact hfin

theorem c_order_Cells_1 {c : Cfg} {l : List Unt} {lv : Value} {lc : Lvl} {i a2 a3 : Nat} (hm : c.may) (hall : ∀ u ∈ l, mayU c u = true) (hn : l.length ≤ 512) (hi : i < c.all.length)
    (h2 : Bx H a2 (cCfg c)) (h3 : Bx H a3 [lv]) (hl : Sl rUnt H A lv l) (hQ : ∀ u H', Sl (rI .i64) H' (fun y => H.size ≤ y) u (toldL c l i) → G H H' → Q u H') :
    callV Try.prog (.func (.func fn_order_Cells_1) #[] #[.pointer (some ⟨a3, 0, none⟩), .pointer (some ⟨a2, 0, none⟩)]) [.int .i64 (i : Int), .agg (cLvl lc).toArray] H Q := by
  apply C_order_Cells_1_of
  unfold S_order_Cells_1
  try simp only [sv_cons, sv_cons1, sc_cons, sc_cons1, asB_bool, ifB_true, ifB_false, un_not, bin_lss, bin_leq, bin_gtr, bin_geq, bin_eql, bin_neq, bin_add, bin_sub, bin_mul, ok_int, ok_bool, ok_slice, ok_str, ok_ptr, ok_map, ok_func, ok_iface, ok_nil, List.all_cons, List.all_nil, Bool.and_true, Bool.true_and, seg, setSeg, List.drop_succ_cons, List.drop_zero, List.take_succ_cons, List.take_zero, List.cons_append, List.nil_append, List.append_nil, List.length_cons, List.length_nil, List.drop_nil, List.size_toArray, Nat.reduceAdd, Nat.reduceLeDiff, Nat.reduceBEq, Nat.zero_add, Nat.le_refl, decide_true, mkV, List.headD_cons, cellsV, w_fldV, w_ext, w_fldP, List.getElem?_toArray, List.getElem?_cons_zero, List.getElem?_cons_succ, beq_self_eq_true, selV]
  have hl := hl.old
  refine newC_bx fun H1 h4 g1 s1 => newT_of fun H2 g2 s2 => mkM_mp (q := .i64) fun H3 hr g3 s3 => newC_bx fun H4 h7 g4 s4 => ?_
  refine h7.store rfl fun H5 h7 f5 s5 => ?_
  have g14 := (g2.trans g3).trans g4
  have g04 := g1.trans g14
  have k1 := h2.lt
  have k2 := h3.lt
  have g05 : G H H5 := g04.then f5 fun y hy => by omega
  have h2 := h2.g g05
  have h3 := h3.g g05
  have h4 := (h4.g g14).up f5 (show H.size ≠ H3.size by omega)
  have hr := (hr.g g4).up f5 (show H2.size ≠ H3.size by omega)
  refine h3.load rfl ?_
  have hm0 : Mp H5 H2.size .i64 (mst (blkAt c l i) 0) := by
    have : mst (blkAt c l i) 0 = fun _ => none := by funext b; unfold mst; split <;> rfl
    rw [this]; exact hr
  refine c_order_each_Unit (I := fun t H' => Mp H' H2.size .i64 (mst (blkAt c l i) t) ∧ Bx H' a2 (cCfg c) ∧ Bx H' H3.size [.map (some H2.size)] ∧ Bx H' H.size [.int .i64 (i : Int)]) (f := toldF (blkAt c l i)) (r := H2.size)
    (hl.g g05) (by omega) (fun y (hy : y < H.size) _ => by omega) hn (fun t ht => told_small hn ht) ⟨hm0, h2, h7, h4⟩ ?_ ?_ fun v H6 hv f6 => ?_
  · rintro t Ha Hb ⟨i1, i2, i3, i4⟩ f
    exact ⟨i1.up f (show H2.size < H5.size by omega), i2.up f (show a2 < H5.size by omega), i3.up f (show H3.size < H5.size by omega), i4.up f (show H.size < H5.size by omega)⟩
  · rintro t u v Ha K hu ⟨i1, i2, i3, i4⟩ hsz hK
    refine c_order_Cells_1_1 hm hall hn hi hu i2 i3 i4 i1 fun Hb j1 f => hK Hb ⟨j1, i2.up f (show a2 ≠ H2.size by omega), i3.up f (show H3.size ≠ H2.size by omega), i4.up f (show H.size ≠ H2.size by omega)⟩ f
  · exact hQ v H6 (hv.mono fun y hy _ => by have := g05.size; omega) (g05.then f6 fun y hy => by omega)

theorem c_order_Cells {c : Cfg} {l : List Unt} {v : Value} (hv : Sl rUnt H A v l) (hQ : ∀ w H', Sl (rSl (rI .i64)) H' (fun y => H.size ≤ y) w (if unitsE c l = 0 then cellsL c l else []) → G H H' → Q (tup2 w (.int .i64 (unitsE c l))) H') :
    callV Try.prog (fnV fn_order_Cells) [.agg (cCfg c).toArray, v] H Q := by
  apply S_order_Cells_of
  unfold S_order_Cells
  have hok := hv.okcv
  have hv := hv.old
  have bad : ∀ e H', unitsE c l = e → e ≠ 0 → G H H' → Q (tup2 (.slice none 0 0) (.int .i64 e)) H' := fun e H' he hne g => by
    have := hQ (.slice none 0 0) H' (by rw [if_neg (by omega)]; exact Sl.nil _ _ _ _ _) g
    rw [he] at this; exact this
  refine newC_bx fun H1 h2 g1 s1 => ?_
  try simp only [sv_cons, sv_cons1, sc_cons, sc_cons1, asB_bool, ifB_true, ifB_false, un_not, bin_lss, bin_leq, bin_gtr, bin_geq, bin_eql, bin_neq, bin_add, bin_sub, bin_mul, ok_int, ok_bool, ok_slice, ok_str, ok_ptr, ok_map, ok_func, ok_iface, ok_nil, List.all_cons, List.all_nil, Bool.and_true, Bool.true_and, seg, setSeg, List.drop_succ_cons, List.drop_zero, List.take_succ_cons, List.take_zero, List.cons_append, List.nil_append, List.append_nil, List.length_cons, List.length_nil, List.drop_nil, List.size_toArray, Nat.reduceAdd, Nat.reduceLeDiff, Nat.reduceBEq, Nat.zero_add, Nat.le_refl, decide_true, mkV, List.headD_cons, cellsV, w_fldV, w_ext, w_fldP, List.getElem?_toArray, List.getElem?_cons_zero, List.getElem?_cons_succ, beq_self_eq_true, selV, hok]
  refine newC_bx fun H2 h3 g2 s2 => (h2.g g2).load rfl ?_
  try simp only [sv_cons, sv_cons1, sc_cons, sc_cons1, asB_bool, ifB_true, ifB_false, un_not, bin_lss, bin_leq, bin_gtr, bin_geq, bin_eql, bin_neq, bin_add, bin_sub, bin_mul, ok_int, ok_bool, ok_slice, ok_str, ok_ptr, ok_map, ok_func, ok_iface, ok_nil, List.all_cons, List.all_nil, Bool.and_true, Bool.true_and, seg, setSeg, List.drop_succ_cons, List.drop_zero, List.take_succ_cons, List.take_zero, List.cons_append, List.nil_append, List.append_nil, List.length_cons, List.length_nil, List.drop_nil, List.size_toArray, Nat.reduceAdd, Nat.reduceLeDiff, Nat.reduceBEq, Nat.zero_add, Nat.le_refl, decide_true, mkV, List.headD_cons, cellsV, w_fldV, w_ext, w_fldP, List.getElem?_toArray, List.getElem?_cons_zero, List.getElem?_cons_succ, beq_self_eq_true, selV]
  refine c_conf_Levels fun lv H3 hlv g3 => ?_
  have g := (g1.trans g2).trans g3
  have h2 := h2.g (g2.trans g3)
  have h3 := h3.g g3
  try simp only [sv_cons, sv_cons1, sc_cons, sc_cons1, asB_bool, ifB_true, ifB_false, un_not, bin_lss, bin_leq, bin_gtr, bin_geq, bin_eql, bin_neq, bin_add, bin_sub, bin_mul, ok_int, ok_bool, ok_slice, ok_str, ok_ptr, ok_map, ok_func, ok_iface, ok_nil, List.all_cons, List.all_nil, Bool.and_true, Bool.true_and, seg, setSeg, List.drop_succ_cons, List.drop_zero, List.take_succ_cons, List.take_zero, List.cons_append, List.nil_append, List.append_nil, List.length_cons, List.length_nil, List.drop_nil, List.size_toArray, Nat.reduceAdd, Nat.reduceLeDiff, Nat.reduceBEq, Nat.zero_add, Nat.le_refl, decide_true, mkV, List.headD_cons, cellsV, w_fldV, w_ext, w_fldP, List.getElem?_toArray, List.getElem?_cons_zero, List.getElem?_cons_succ, beq_self_eq_true, selV]
  by_cases hm : c.may
  · have e0 : c.err = 0 := by unfold Cfg.err; rw [if_pos hm]
    have el : c.levels = c.all := by unfold Cfg.levels; rw [if_pos hm]
    rw [e0]
    rw [el] at hlv
    have hue : unitsE c l = if l.length > 512 then 4 else if l.all (mayU c) then 0 else 2 := by unfold unitsE; rw [if_pos hm]
    try simp only [sv_cons, sv_cons1, sc_cons, sc_cons1, asB_bool, ifB_true, ifB_false, un_not, bin_lss, bin_leq, bin_gtr, bin_geq, bin_eql, bin_neq, bin_add, bin_sub, bin_mul, ok_int, ok_bool, ok_slice, ok_str, ok_ptr, ok_map, ok_func, ok_iface, ok_nil, List.all_cons, List.all_nil, Bool.and_true, Bool.true_and, seg, setSeg, List.drop_succ_cons, List.drop_zero, List.take_succ_cons, List.take_zero, List.cons_append, List.nil_append, List.append_nil, List.length_cons, List.length_nil, List.drop_nil, List.size_toArray, Nat.reduceAdd, Nat.reduceLeDiff, Nat.reduceBEq, Nat.zero_add, Nat.le_refl, decide_true, mkV, List.headD_cons, cellsV, w_fldV, w_ext, w_fldP, List.getElem?_toArray, List.getElem?_cons_zero, List.getElem?_cons_succ, beq_self_eq_true, selV]
    refine h3.load rfl (hv.len ?_)
    try simp only [sv_cons, sv_cons1, sc_cons, sc_cons1, asB_bool, ifB_true, ifB_false, un_not, bin_lss, bin_leq, bin_gtr, bin_geq, bin_eql, bin_neq, bin_add, bin_sub, bin_mul, ok_int, ok_bool, ok_slice, ok_str, ok_ptr, ok_map, ok_func, ok_iface, ok_nil, List.all_cons, List.all_nil, Bool.and_true, Bool.true_and, seg, setSeg, List.drop_succ_cons, List.drop_zero, List.take_succ_cons, List.take_zero, List.cons_append, List.nil_append, List.append_nil, List.length_cons, List.length_nil, List.drop_nil, List.size_toArray, Nat.reduceAdd, Nat.reduceLeDiff, Nat.reduceBEq, Nat.zero_add, Nat.le_refl, decide_true, mkV, List.headD_cons, cellsV, w_fldV, w_ext, w_fldP, List.getElem?_toArray, List.getElem?_cons_zero, List.getElem?_cons_succ, beq_self_eq_true, selV]
    refine ifD_of (fun h => ?_) (fun h => ?_)
    · exact bad 4 _ (by rw [hue, if_pos (by omega)]) (by omega) g
    rw [if_neg (by omega)] at hue
    refine h3.load rfl (hv.len ?_)
    try simp only [sv_cons, sv_cons1, sc_cons, sc_cons1, asB_bool, ifB_true, ifB_false, un_not, bin_lss, bin_leq, bin_gtr, bin_geq, bin_eql, bin_neq, bin_add, bin_sub, bin_mul, ok_int, ok_bool, ok_slice, ok_str, ok_ptr, ok_map, ok_func, ok_iface, ok_nil, List.all_cons, List.all_nil, Bool.and_true, Bool.true_and, seg, setSeg, List.drop_succ_cons, List.drop_zero, List.take_succ_cons, List.take_zero, List.cons_append, List.nil_append, List.append_nil, List.length_cons, List.length_nil, List.drop_nil, List.size_toArray, Nat.reduceAdd, Nat.reduceLeDiff, Nat.reduceBEq, Nat.zero_add, Nat.le_refl, decide_true, mkV, List.headD_cons, cellsV, w_fldV, w_ext, w_fldP, List.getElem?_toArray, List.getElem?_cons_zero, List.getElem?_cons_succ, beq_self_eq_true, selV]
    refine loop_up l.length (fun i s H' => G H3 H' ∧ s = [[.int .i64 (i : Int)]] ∧ ∀ u ∈ l.take i, mayU c u = true) ⟨G.fr (Fr.refl _ _), rfl, by simp⟩ ?_
    rintro i s H4 K hi ⟨g4, rfl, hall⟩ hK
    try simp only [sv_cons, sv_cons1, sc_cons, sc_cons1, asB_bool, ifB_true, ifB_false, un_not, bin_lss, bin_leq, bin_gtr, bin_geq, bin_eql, bin_neq, bin_add, bin_sub, bin_mul, ok_int, ok_bool, ok_slice, ok_str, ok_ptr, ok_map, ok_func, ok_iface, ok_nil, List.all_cons, List.all_nil, Bool.and_true, Bool.true_and, seg, setSeg, List.drop_succ_cons, List.drop_zero, List.take_succ_cons, List.take_zero, List.cons_append, List.nil_append, List.append_nil, List.length_cons, List.length_nil, List.drop_nil, List.size_toArray, Nat.reduceAdd, Nat.reduceLeDiff, Nat.reduceBEq, Nat.zero_add, Nat.le_refl, decide_true, mkV, List.headD_cons, cellsV, w_fldV, w_ext, w_fldP, List.getElem?_toArray, List.getElem?_cons_zero, List.getElem?_cons_succ, beq_self_eq_true, selV]
    refine ifD_of (fun h1 => ?_) (fun h1 => ?_)
    · have hlt : i < l.length := by omega
      refine (hv.g (g.trans g4)).get rfl (List.getElem?_eq_getElem hlt) fun cs hr => ?_
      obtain ⟨w, rfl, hw⟩ := hr
      refine newT_of fun H5 g5 _ => ?_
      have hokw := hw.okcv
      try simp only [sv_cons, sv_cons1, sc_cons, sc_cons1, asB_bool, ifB_true, ifB_false, un_not, bin_lss, bin_leq, bin_gtr, bin_geq, bin_eql, bin_neq, bin_add, bin_sub, bin_mul, ok_int, ok_bool, ok_slice, ok_str, ok_ptr, ok_map, ok_func, ok_iface, ok_nil, List.all_cons, List.all_nil, Bool.and_true, Bool.true_and, seg, setSeg, List.drop_succ_cons, List.drop_zero, List.take_succ_cons, List.take_zero, List.cons_append, List.nil_append, List.append_nil, List.length_cons, List.length_nil, List.drop_nil, List.size_toArray, Nat.reduceAdd, Nat.reduceLeDiff, Nat.reduceBEq, Nat.zero_add, Nat.le_refl, decide_true, mkV, List.headD_cons, cellsV, w_fldV, w_ext, w_fldP, List.getElem?_toArray, List.getElem?_cons_zero, List.getElem?_cons_succ, beq_self_eq_true, selV, hokw]
      refine (h2.g (g4.trans g5)).load rfl ?_
      try simp only [sv_cons, sv_cons1, sc_cons, sc_cons1, asB_bool, ifB_true, ifB_false, un_not, bin_lss, bin_leq, bin_gtr, bin_geq, bin_eql, bin_neq, bin_add, bin_sub, bin_mul, ok_int, ok_bool, ok_slice, ok_str, ok_ptr, ok_map, ok_func, ok_iface, ok_nil, List.all_cons, List.all_nil, Bool.and_true, Bool.true_and, seg, setSeg, List.drop_succ_cons, List.drop_zero, List.take_succ_cons, List.take_zero, List.cons_append, List.nil_append, List.append_nil, List.length_cons, List.length_nil, List.drop_nil, List.size_toArray, Nat.reduceAdd, Nat.reduceLeDiff, Nat.reduceBEq, Nat.zero_add, Nat.le_refl, decide_true, mkV, List.headD_cons, cellsV, w_fldV, w_ext, w_fldP, List.getElem?_toArray, List.getElem?_cons_zero, List.getElem?_cons_succ, beq_self_eq_true, selV]
      refine c_order_may (hw.g g5) fun H6 g6 => ?_
      have g46 := (g4.trans g5).trans g6
      try simp only [sv_cons, sv_cons1, sc_cons, sc_cons1, asB_bool, ifB_true, ifB_false, un_not, bin_lss, bin_leq, bin_gtr, bin_geq, bin_eql, bin_neq, bin_add, bin_sub, bin_mul, ok_int, ok_bool, ok_slice, ok_str, ok_ptr, ok_map, ok_func, ok_iface, ok_nil, List.all_cons, List.all_nil, Bool.and_true, Bool.true_and, seg, setSeg, List.drop_succ_cons, List.drop_zero, List.take_succ_cons, List.take_zero, List.cons_append, List.nil_append, List.append_nil, List.length_cons, List.length_nil, List.drop_nil, List.size_toArray, Nat.reduceAdd, Nat.reduceLeDiff, Nat.reduceBEq, Nat.zero_add, Nat.le_refl, decide_true, mkV, List.headD_cons, cellsV, w_fldV, w_ext, w_fldP, List.getElem?_toArray, List.getElem?_cons_zero, List.getElem?_cons_succ, beq_self_eq_true, selV]
      cases hmu : mayU c l[i] with
      | true =>
        try simp only [sv_cons, sv_cons1, sc_cons, sc_cons1, asB_bool, ifB_true, ifB_false, un_not, bin_lss, bin_leq, bin_gtr, bin_geq, bin_eql, bin_neq, bin_add, bin_sub, bin_mul, ok_int, ok_bool, ok_slice, ok_str, ok_ptr, ok_map, ok_func, ok_iface, ok_nil, List.all_cons, List.all_nil, Bool.and_true, Bool.true_and, seg, setSeg, List.drop_succ_cons, List.drop_zero, List.take_succ_cons, List.take_zero, List.cons_append, List.nil_append, List.append_nil, List.length_cons, List.length_nil, List.drop_nil, List.size_toArray, Nat.reduceAdd, Nat.reduceLeDiff, Nat.reduceBEq, Nat.zero_add, Nat.le_refl, decide_true, mkV, List.headD_cons, cellsV, w_fldV, w_ext, w_fldP, List.getElem?_toArray, List.getElem?_cons_zero, List.getElem?_cons_succ, beq_self_eq_true, selV, Bool.not_true]
        rw [wrap_i64 (by unfold i64; omega)]
        refine hK _ _ hlt ⟨g46, by simp, fun u hu => ?_⟩
        rw [List.take_succ_eq_append_getElem hlt, List.mem_append, List.mem_singleton] at hu
        rcases hu with hu | rfl
        · exact hall u hu
        · exact hmu
      | false =>
        try simp only [sv_cons, sv_cons1, sc_cons, sc_cons1, asB_bool, ifB_true, ifB_false, un_not, bin_lss, bin_leq, bin_gtr, bin_geq, bin_eql, bin_neq, bin_add, bin_sub, bin_mul, ok_int, ok_bool, ok_slice, ok_str, ok_ptr, ok_map, ok_func, ok_iface, ok_nil, List.all_cons, List.all_nil, Bool.and_true, Bool.true_and, seg, setSeg, List.drop_succ_cons, List.drop_zero, List.take_succ_cons, List.take_zero, List.cons_append, List.nil_append, List.append_nil, List.length_cons, List.length_nil, List.drop_nil, List.size_toArray, Nat.reduceAdd, Nat.reduceLeDiff, Nat.reduceBEq, Nat.zero_add, Nat.le_refl, decide_true, mkV, List.headD_cons, cellsV, w_fldV, w_ext, w_fldP, List.getElem?_toArray, List.getElem?_cons_zero, List.getElem?_cons_succ, beq_self_eq_true, selV, Bool.not_false]
        refine bad 2 _ ?_ (by omega) (g.trans g46)
        rw [hue, if_neg]
        intro hh
        rw [List.all_eq_true] at hh
        have := hh _ (List.getElem_mem hlt)
        rw [hmu] at this; cases this
    · have : i = l.length := by omega
      subst this
      rw [List.take_length] at hall
      rw [if_pos (List.all_eq_true.2 hall)] at hue
      rw [hue, if_pos rfl] at hQ
      have hlen := hm.2
      refine c_order_each_Level (f := fun i => toldL c l i) (hlv.g g4) (by omega) ?_ fun w H5 hw g5 => ?_
      · intro i lc H5 K hlc g5 hK
        have hi' := (List.getElem?_eq_some_iff.1 hlc).1
        exact c_order_Cells_1 hm hall (by omega) hi' (h2.g (g4.trans g5)) (h3.g (g4.trans g5)) (hv.g ((g.trans g4).trans g5)) fun u H6 hu g6 => hK u H6 hu g6
      · exact hQ w H5 (hw.mono fun y hy _ => by have := (g.trans g4).size; omega) ((g.trans g4).trans g5)
  · have e0 : c.err = 8 := by unfold Cfg.err; rw [if_neg hm]
    rw [e0]
    try simp only [sv_cons, sv_cons1, sc_cons, sc_cons1, asB_bool, ifB_true, ifB_false, un_not, bin_lss, bin_leq, bin_gtr, bin_geq, bin_eql, bin_neq, bin_add, bin_sub, bin_mul, ok_int, ok_bool, ok_slice, ok_str, ok_ptr, ok_map, ok_func, ok_iface, ok_nil, List.all_cons, List.all_nil, Bool.and_true, Bool.true_and, seg, setSeg, List.drop_succ_cons, List.drop_zero, List.take_succ_cons, List.take_zero, List.cons_append, List.nil_append, List.append_nil, List.length_cons, List.length_nil, List.drop_nil, List.size_toArray, Nat.reduceAdd, Nat.reduceLeDiff, Nat.reduceBEq, Nat.zero_add, Nat.le_refl, decide_true, mkV, List.headD_cons, cellsV, w_fldV, w_ext, w_fldP, List.getElem?_toArray, List.getElem?_cons_zero, List.getElem?_cons_succ, beq_self_eq_true, selV]
    exact bad 8 _ (by unfold unitsE; rw [if_neg hm]) (by omega) g

end Go.Proofs.Ytikebhnnmnlgaaa
