/- Contracts: the laws of stashes: the chapter's examples, what is written over. -/
import Derived.Test.YtccdoecccaocjaaConStash2
import Derived.Test.YtccdoecccaocjaaShLaw16
import Derived.Test.YtccdoecccaocjaaMdStash2
namespace Go.Proofs.Ytccdoecccaocjaa
open Go.Ab Go.Md
set_option linter.unusedVariables false
set_option linter.unusedSimpArgs false
set_option maxRecDepth 20000

variable {H : Heap} {Q : Value → Heap → Prop} {A B C : Nat → Prop}

def lv8 : Lvl := ⟨8, 1, 3, 73⟩
def ob (id : Int) (c : UInt8) : Blk := ⟨id, 0, [c]⟩

theorem c_law16_level (hQ : ∀ H', G H H' → Q (.agg (cLvl lv8).toArray) H') : callV Try.prog (fnV fn_law16_level) [] H Q := by
  apply S_law16_level_of
  unfold S_law16_level
  exact newT_of fun H1 g1 _ => hQ H1 g1

theorem c_law16_one {id : Int} {c : UInt8} {v : Value} (hv : v = .int .u8 (c.toNat : Int)) (hQ : ∀ u H', Sl rU8 H' (fun y => H.size ≤ y) u [c] → G H H' → Q (vBlk (ob id c) u) H') : callV Try.prog (fnV fn_law16_one) [.int .i64 id, v] H Q := by
  subst hv
  apply S_law16_one_of
  unfold S_law16_one
  refine newT_of fun H0 g0 s0 => ?_
  have hc : VRep rU8 H0 (fun _ => False) false (.int .u8 (c.toNat : Int)) c := ⟨_, rfl, rfl, trivial⟩
  refine bld_one hc rfl (fun _ => rfl) ?_ fun u H1 hu g1 s1 => ?_
  · rfl
  have hok := hu.okcv
  try simp only [sv_cons, sv_cons1, sc_cons, sc_cons1, asB_bool, ifB_true, ifB_false, un_not, bin_lss, bin_leq, bin_gtr, bin_geq, bin_eql, bin_neq, bin_add, bin_sub, bin_mul, ok_int, ok_bool, ok_slice, ok_str, ok_ptr, ok_map, ok_func, ok_iface, ok_nil, List.all_cons, List.all_nil, Bool.and_true, Bool.true_and, seg, setSeg, List.drop_succ_cons, List.drop_zero, List.take_succ_cons, List.take_zero, List.cons_append, List.nil_append, List.append_nil, List.length_cons, List.length_nil, List.drop_nil, List.size_toArray, Nat.reduceAdd, Nat.reduceLeDiff, Nat.reduceBEq, Nat.zero_add, Nat.le_refl, decide_true, mkV, List.headD_cons, cellsV, w_fldV, w_ext, w_fldP, List.getElem?_toArray, List.getElem?_cons_zero, List.getElem?_cons_succ, beq_self_eq_true, selV, hok]
  exact hQ u H1 (hu.sl (fun y hy _ => hy.1.elim) fun k hk => by omega) (g0.trans g1)

/-- Blocks of a byte each, written out. -/
theorem c_ob2 {e : Nat} {z : List Value} {v w : Value} {a b : Blk} {k : Value → Heap → Prop} (hv : Sl rU8 H A v a.data) (hw : Sl rU8 H A w b.data) (hk : ∀ u H', Sl rBlk H' (fun y => A y ∨ H.size ≤ y) u [a, b] → G H H' → k u H') :
    bldS e 3 true z 2 [(0, vBlk a v), (1, vBlk b w)] H k := by
  refine bld_all (R := rBlk) (agg := true) (A := A) (vs := [vBlk a v, vBlk b w]) (xs := [a, b]) (.cons (vrep_blk hv) (.cons (vrep_blk hw) .nil)) rfl (fun h => by cases h) rfl fun u H1 hu g1 s1 => hk u H1 (hu.sl (fun y hy _ => .inl hy.1) fun k hk => .inr (by omega)) g1
theorem c_ob1 {e : Nat} {z : List Value} {v : Value} {a : Blk} {k : Value → Heap → Prop} (hv : Sl rU8 H A v a.data) (hk : ∀ u H', Sl rBlk H' (fun y => A y ∨ H.size ≤ y) u [a] → G H H' → k u H') :
    bldS e 3 true z 1 [(0, vBlk a v)] H k := by
  refine bld_all (R := rBlk) (agg := true) (A := A) (vs := [vBlk a v]) (xs := [a]) (.cons (vrep_blk hv) .nil) rfl (fun h => by cases h) rfl fun u H1 hu g1 s1 => hk u H1 (hu.sl (fun y hy _ => .inl hy.1) fun k hk => .inr (by omega)) g1

theorem c_law16_two (hQ : ∀ u H', Sl rBlk H' (fun _ => True) u [ob 2 1, ob 5 1] → G H H' → Q u H') : callV Try.prog (fnV fn_law16_two) [] H Q := by
  apply S_law16_two_of
  unfold S_law16_two
  refine c_law16_one (c := 1) rfl fun u H1 hu g1 => c_law16_one (c := 1) rfl fun w H2 hw g2 => ?_
  exact c_ob2 (A := fun _ => True) ((hu.g g2).mono fun _ _ _ => trivial) (hw.mono fun _ _ _ => trivial) fun t H3 ht g3 => hQ t H3 (ht.mono fun _ _ _ => trivial) ((g1.trans g2).trans g3)

theorem lv8_w : i64 lv8.width := by unfold i64; decide
theorem up_T {v : Value} {xs : List Blk} (h : Sl rBlk H A v xs) : Sl rBlk H (fun _ => True) v xs := h.mono fun _ _ _ => trivial

theorem al1 : putE lv8 [] (ob 5 1) = 0 ∧ putV lv8 [] (ob 5 1) = [ob 5 1] := by decide
theorem al2 : putE lv8 [ob 5 1] (ob 2 1) = 0 ∧ putV lv8 [ob 5 1] (ob 2 1) = [ob 2 1, ob 5 1] := by decide
theorem al3 : putE lv8 [ob 2 1, ob 5 1] (ob 5 9) = 0 ∧ putV lv8 [ob 2 1, ob 5 1] (ob 5 9) = [ob 2 1, ob 5 9] := by decide

theorem c_law16_alive (hQ : ∀ H', G H H' → Q (.bool true) H') : callV Try.prog (fnV fn_law16_alive) [] H Q := by
  apply S_law16_alive_of
  unfold S_law16_alive
  refine c_law16_level fun H0 g0 => c_law16_one (c := 1) rfl fun u1 H1 hu1 g1 => c_stash_Put (s := []) (b := ob 5 1) lv8_w (Sl.nil _ _ (fun _ => True) _ _) hu1 (by simp) fun v1 H2 hv1 g2 => ?_
  rw [al1.2] at hv1
  rw [al1.1]
  try simp only [sv_cons, sv_cons1, sc_cons, sc_cons1, asB_bool, ifB_true, ifB_false, un_not, bin_lss, bin_leq, bin_gtr, bin_geq, bin_eql, bin_neq, bin_add, bin_sub, bin_mul, ok_int, ok_bool, ok_slice, ok_str, ok_ptr, ok_map, ok_func, ok_iface, ok_nil, List.all_cons, List.all_nil, Bool.and_true, Bool.true_and, seg, setSeg, List.drop_succ_cons, List.drop_zero, List.take_succ_cons, List.take_zero, List.cons_append, List.nil_append, List.append_nil, List.length_cons, List.length_nil, List.drop_nil, List.size_toArray, Nat.reduceAdd, Nat.reduceLeDiff, Nat.reduceBEq, Nat.zero_add, Nat.le_refl, decide_true, mkV, List.headD_cons, cellsV, w_fldV, w_ext, w_fldP, List.getElem?_toArray, List.getElem?_cons_zero, List.getElem?_cons_succ, beq_self_eq_true, selV]
  refine c_law16_level fun Ha ga => c_law16_one (c := 1) rfl fun u2 H3 hu2 g3 => c_stash_Put (b := ob 2 1) lv8_w (hv1.g (ga.trans g3)) hu2 (by simp) fun v2 H4 hv2 g4 => ?_
  rw [al2.2] at hv2
  rw [al2.1]
  try simp only [sv_cons, sv_cons1, sc_cons, sc_cons1, asB_bool, ifB_true, ifB_false, un_not, bin_lss, bin_leq, bin_gtr, bin_geq, bin_eql, bin_neq, bin_add, bin_sub, bin_mul, ok_int, ok_bool, ok_slice, ok_str, ok_ptr, ok_map, ok_func, ok_iface, ok_nil, List.all_cons, List.all_nil, Bool.and_true, Bool.true_and, seg, setSeg, List.drop_succ_cons, List.drop_zero, List.take_succ_cons, List.take_zero, List.cons_append, List.nil_append, List.append_nil, List.length_cons, List.length_nil, List.drop_nil, List.size_toArray, Nat.reduceAdd, Nat.reduceLeDiff, Nat.reduceBEq, Nat.zero_add, Nat.le_refl, decide_true, mkV, List.headD_cons, cellsV, w_fldV, w_ext, w_fldP, List.getElem?_toArray, List.getElem?_cons_zero, List.getElem?_cons_succ, beq_self_eq_true, selV]
  refine c_law16_level fun Hb gb => c_law16_one (c := 9) rfl fun u3 H5 hu3 g5 => c_stash_Put (b := ob 5 9) lv8_w (hv2.g (gb.trans g5)) hu3 (by simp) fun v3 H6 hv3 g6 => ?_
  rw [al3.2] at hv3
  rw [al3.1]
  try simp only [sv_cons, sv_cons1, sc_cons, sc_cons1, asB_bool, ifB_true, ifB_false, un_not, bin_lss, bin_leq, bin_gtr, bin_geq, bin_eql, bin_neq, bin_add, bin_sub, bin_mul, ok_int, ok_bool, ok_slice, ok_str, ok_ptr, ok_map, ok_func, ok_iface, ok_nil, List.all_cons, List.all_nil, Bool.and_true, Bool.true_and, seg, setSeg, List.drop_succ_cons, List.drop_zero, List.take_succ_cons, List.take_zero, List.cons_append, List.nil_append, List.append_nil, List.length_cons, List.length_nil, List.drop_nil, List.size_toArray, Nat.reduceAdd, Nat.reduceLeDiff, Nat.reduceBEq, Nat.zero_add, Nat.le_refl, decide_true, mkV, List.headD_cons, cellsV, w_fldV, w_ext, w_fldP, List.getElem?_toArray, List.getElem?_cons_zero, List.getElem?_cons_succ, beq_self_eq_true, selV]
  have g5 := gb.trans g5
  have g := ((((g0.trans g1).trans g2).trans ((ga.trans g3).trans g4)).trans g5).trans g6
  have hv2 := hv2.g (g5.trans g6)
  refine join_of (fun st H' => G H H' ∧ st = [[.bool true]]) (fun K hK => ?_) fun st H' hh => by obtain ⟨g, rfl⟩ := hh; exact hQ H' g
  refine c_law16_two fun t H7 ht g7 => c_ref09_SameAll (hv2.g g7) ht (by simp) fun H8 g8 => ?_
  try simp only [sv_cons, sv_cons1, sc_cons, sc_cons1, asB_bool, ifB_true, ifB_false, un_not, bin_lss, bin_leq, bin_gtr, bin_geq, bin_eql, bin_neq, bin_add, bin_sub, bin_mul, ok_int, ok_bool, ok_slice, ok_str, ok_ptr, ok_map, ok_func, ok_iface, ok_nil, List.all_cons, List.all_nil, Bool.and_true, Bool.true_and, seg, setSeg, List.drop_succ_cons, List.drop_zero, List.take_succ_cons, List.take_zero, List.cons_append, List.nil_append, List.append_nil, List.length_cons, List.length_nil, List.drop_nil, List.size_toArray, Nat.reduceAdd, Nat.reduceLeDiff, Nat.reduceBEq, Nat.zero_add, Nat.le_refl, decide_true, mkV, List.headD_cons, cellsV, w_fldV, w_ext, w_fldP, List.getElem?_toArray, List.getElem?_cons_zero, List.getElem?_cons_succ, beq_self_eq_true, selV]
  refine c_law16_one (c := 1) rfl fun u4 H9 hu4 g9 => c_law16_one (c := 9) rfl fun u5 H10 hu5 g10 => ?_
  refine c_ob2 (A := fun _ => True) ((hu4.g g10).mono fun _ _ _ => trivial) (hu5.mono fun _ _ _ => trivial) fun t2 H11 ht2 g11 => ?_
  refine c_ref09_SameAll (hv3.g ((((g7.trans g8).trans g9).trans g10).trans g11)) ht2 (by simp) fun H12 g12 => hK _ _ ⟨(((((g.trans g7).trans g8).trans g9).trans g10).trans g11).trans g12, rfl⟩

/-! ### What is written over -/

theorem loose_Blk : Loose rBlk (fun b => b.data.length) := by
  intro H H' A cs cs' x ⟨v, hc, hv⟩ hW hk hs
  subst hc
  obtain ⟨hl, hs⟩ := hs
  match cs', hl with
  | [y0, y1, y2], _ =>
    have e0 : ∃ a, y0 = .int .i64 a := by
      rcases hs 0 _ y0 rfl rfl with e | ⟨q', a, b, e1, e2, e3⟩
      · exact ⟨_, e.symm⟩
      · cases e1; exact ⟨b, e2⟩
    have e1 : ∃ a, y1 = .int .i64 a := by
      rcases hs 1 _ y1 rfl rfl with e | ⟨q', a, b, e1, e2, e3⟩
      · exact ⟨_, e.symm⟩
      · cases e1; exact ⟨b, e2⟩
    have e2 : y2 = v := by
      rcases hs 2 _ y2 rfl rfl with e | ⟨q', a, b, e1, e2, e3⟩
      · exact e.symm
      · subst e1
        obtain ⟨_, _, _, h, _⟩ := hv
        cases h
    obtain ⟨a, rfl⟩ := e0
    obtain ⟨b, rfl⟩ := e1
    subst e2
    obtain ⟨d, h1, h2⟩ := hv.kd loose_U8 hW hk
    exact ⟨⟨a, b, d⟩, ⟨_, rfl, h1⟩, by have := congrArg List.length h2; simpa using this⟩

theorem c_law16_spoil {v : Value} {s : List Blk} (hv : Sl rBlk H A v s) (hW : Wbl A H) (hl : s.length ≤ 1000000) (hf : ∀ b ∈ s, fits b) (hQ : ∀ H', Kd A H H' → Q (.tuple #[]) H') : callV Try.prog (fnV fn_law16_spoil) [v] H Q := by
  apply S_law16_spoil_of
  unfold S_law16_spoil
  refine loop_up s.length (fun i st H' => Kd A H H' ∧ st = [[.int .i64 (i : Int)]]) ⟨.refl _ _, rfl⟩ ?_
  rintro i st H' K hi ⟨k, rfl⟩ hK
  obtain ⟨s', hv', hsh⟩ := hv.kd loose_Blk hW k
  have hsl : s'.length = s.length := by have := congrArg List.length hsh; simpa using this
  refine hv'.len ?_
  try simp only [sv_cons, sv_cons1, sc_cons, sc_cons1, asB_bool, ifB_true, ifB_false, un_not, bin_lss, bin_leq, bin_gtr, bin_geq, bin_eql, bin_neq, bin_add, bin_sub, bin_mul, ok_int, ok_bool, ok_slice, ok_str, ok_ptr, ok_map, ok_func, ok_iface, ok_nil, List.all_cons, List.all_nil, Bool.and_true, Bool.true_and, seg, setSeg, List.drop_succ_cons, List.drop_zero, List.take_succ_cons, List.take_zero, List.cons_append, List.nil_append, List.append_nil, List.length_cons, List.length_nil, List.drop_nil, List.size_toArray, Nat.reduceAdd, Nat.reduceLeDiff, Nat.reduceBEq, Nat.zero_add, Nat.le_refl, decide_true, mkV, List.headD_cons, cellsV, w_fldV, w_ext, w_fldP, List.getElem?_toArray, List.getElem?_cons_zero, List.getElem?_cons_succ, beq_self_eq_true, selV]
  refine ifD_of (fun h1 => ?_) (fun h1 => hQ H' k)
  have hlt : i < s'.length := by omega
  refine hv'.at rfl (List.getElem?_eq_getElem hlt) fun p cs hp hr => ?_
  obtain ⟨w, hc, hw⟩ := hr
  subst hc
  refine hp.fld1 (by simp) fun p0 hp0 => hp0.storeK (hW.kd k) (by decide) fun H2 k2 => ?_
  have k2 := k.trans k2
  refine loop_up s'[i].data.length (fun j st H' => Kd A H H' ∧ st = [[.int .i64 (j : Int)]]) ⟨k2, rfl⟩ ?_
  rintro j st H3 K3 hj ⟨k3, rfl⟩ hK3
  obtain ⟨s3, hv3, hsh3⟩ := hv.kd loose_Blk hW k3
  have hsl3 : s3.length = s.length := by have := congrArg List.length hsh3; simpa using this
  have hx3 : s3[i]? = some (s3[i]'(by omega)) := List.getElem?_eq_getElem _
  have hdl : (s3[i]'(by omega)).data.length = s'[i].data.length := by
    have h1 := congrArg (·[i]?) (hsh3.trans hsh.symm)
    simp only [List.getElem?_map, hx3, List.getElem?_eq_getElem hlt, Option.map_some, Option.some.injEq] at h1
    exact h1
  have hfl : s'[i].data.length ≤ 140737488355328 := by
    have h1 := congrArg (·[i]?) hsh
    simp only [List.getElem?_map, List.getElem?_eq_getElem hlt, List.getElem?_eq_getElem (show i < s.length by omega), Option.map_some, Option.some.injEq] at h1
    rw [h1]
    exact hf _ (List.getElem_mem _)
  generalize s3[i]'(by omega) = b3 at hx3 hdl
  refine hv3.at rfl hx3 fun p cs hp hr => ?_
  obtain ⟨w, hc, hw⟩ := hr
  subst hc
  refine hp.fld1 (by simp) fun p1 hp1 => hp1.load rfl ?_
  try simp only [sv_cons, sv_cons1, sc_cons, sc_cons1, asB_bool, ifB_true, ifB_false, un_not, bin_lss, bin_leq, bin_gtr, bin_geq, bin_eql, bin_neq, bin_add, bin_sub, bin_mul, ok_int, ok_bool, ok_slice, ok_str, ok_ptr, ok_map, ok_func, ok_iface, ok_nil, List.all_cons, List.all_nil, Bool.and_true, Bool.true_and, seg, setSeg, List.drop_succ_cons, List.drop_zero, List.take_succ_cons, List.take_zero, List.cons_append, List.nil_append, List.append_nil, List.length_cons, List.length_nil, List.drop_nil, List.size_toArray, Nat.reduceAdd, Nat.reduceLeDiff, Nat.reduceBEq, Nat.zero_add, Nat.le_refl, decide_true, mkV, List.headD_cons, cellsV, w_fldV, w_ext, w_fldP, List.getElem?_toArray, List.getElem?_cons_zero, List.getElem?_cons_succ, beq_self_eq_true, selV]
  refine hw.len ?_
  try simp only [sv_cons, sv_cons1, sc_cons, sc_cons1, asB_bool, ifB_true, ifB_false, un_not, bin_lss, bin_leq, bin_gtr, bin_geq, bin_eql, bin_neq, bin_add, bin_sub, bin_mul, ok_int, ok_bool, ok_slice, ok_str, ok_ptr, ok_map, ok_func, ok_iface, ok_nil, List.all_cons, List.all_nil, Bool.and_true, Bool.true_and, seg, setSeg, List.drop_succ_cons, List.drop_zero, List.take_succ_cons, List.take_zero, List.cons_append, List.nil_append, List.append_nil, List.length_cons, List.length_nil, List.drop_nil, List.size_toArray, Nat.reduceAdd, Nat.reduceLeDiff, Nat.reduceBEq, Nat.zero_add, Nat.le_refl, decide_true, mkV, List.headD_cons, cellsV, w_fldV, w_ext, w_fldP, List.getElem?_toArray, List.getElem?_cons_zero, List.getElem?_cons_succ, beq_self_eq_true, selV]
  refine ifD_of (fun h2 => ?_) (fun h2 => ?_)
  · have hlt3 : j < b3.data.length := by omega
    have hget : ∀ (kk : Value → Prop), (∀ p u, AtC H3 A p [.int .i64 b3.id, .int .i64 b3.leaf, u] → Sl rU8 H3 A u b3.data → kk p) → idxS 3 v (.int .i64 (i : Int)) kk := fun kk hkk => hv3.at rfl hx3 fun p cs hp hr => by
      obtain ⟨w, hc, hw⟩ := hr
      subst hc
      exact hkk p w hp hw
    refine hget _ fun pa ua hpa hua => hpa.fld1 (by simp) fun p2 hp2 => hp2.load rfl ?_
    try simp only [sv_cons, sv_cons1, sc_cons, sc_cons1, asB_bool, ifB_true, ifB_false, un_not, bin_lss, bin_leq, bin_gtr, bin_geq, bin_eql, bin_neq, bin_add, bin_sub, bin_mul, ok_int, ok_bool, ok_slice, ok_str, ok_ptr, ok_map, ok_func, ok_iface, ok_nil, List.all_cons, List.all_nil, Bool.and_true, Bool.true_and, seg, setSeg, List.drop_succ_cons, List.drop_zero, List.take_succ_cons, List.take_zero, List.cons_append, List.nil_append, List.append_nil, List.length_cons, List.length_nil, List.drop_nil, List.size_toArray, Nat.reduceAdd, Nat.reduceLeDiff, Nat.reduceBEq, Nat.zero_add, Nat.le_refl, decide_true, mkV, List.headD_cons, cellsV, w_fldV, w_ext, w_fldP, List.getElem?_toArray, List.getElem?_cons_zero, List.getElem?_cons_succ, beq_self_eq_true, selV]
    refine hget _ fun pb ub hpb hub => hpb.fld1 (by simp) fun p3 hp3 => hp3.load rfl ?_
    try simp only [sv_cons, sv_cons1, sc_cons, sc_cons1, asB_bool, ifB_true, ifB_false, un_not, bin_lss, bin_leq, bin_gtr, bin_geq, bin_eql, bin_neq, bin_add, bin_sub, bin_mul, ok_int, ok_bool, ok_slice, ok_str, ok_ptr, ok_map, ok_func, ok_iface, ok_nil, List.all_cons, List.all_nil, Bool.and_true, Bool.true_and, seg, setSeg, List.drop_succ_cons, List.drop_zero, List.take_succ_cons, List.take_zero, List.cons_append, List.nil_append, List.append_nil, List.length_cons, List.length_nil, List.drop_nil, List.size_toArray, Nat.reduceAdd, Nat.reduceLeDiff, Nat.reduceBEq, Nat.zero_add, Nat.le_refl, decide_true, mkV, List.headD_cons, cellsV, w_fldV, w_ext, w_fldP, List.getElem?_toArray, List.getElem?_cons_zero, List.getElem?_cons_succ, beq_self_eq_true, selV]
    have hxj : b3.data[j]? = some b3.data[j] := List.getElem?_eq_getElem hlt3
    refine hub.at rfl hxj fun p4 cs4 hp4 hr4 => ?_
    obtain ⟨hc4, _⟩ := hr4
    subst hc4
    refine hp4.load rfl ?_
    try simp only [sv_cons, sv_cons1, sc_cons, sc_cons1, asB_bool, ifB_true, ifB_false, un_not, bin_lss, bin_leq, bin_gtr, bin_geq, bin_eql, bin_neq, bin_add, bin_sub, bin_mul, ok_int, ok_bool, ok_slice, ok_str, ok_ptr, ok_map, ok_func, ok_iface, ok_nil, List.all_cons, List.all_nil, Bool.and_true, Bool.true_and, seg, setSeg, List.drop_succ_cons, List.drop_zero, List.take_succ_cons, List.take_zero, List.cons_append, List.nil_append, List.append_nil, List.length_cons, List.length_nil, List.drop_nil, List.size_toArray, Nat.reduceAdd, Nat.reduceLeDiff, Nat.reduceBEq, Nat.zero_add, Nat.le_refl, decide_true, mkV, List.headD_cons, cellsV, w_fldV, w_ext, w_fldP, List.getElem?_toArray, List.getElem?_cons_zero, List.getElem?_cons_succ, beq_self_eq_true, selV]
    refine hua.at rfl hxj fun p5 cs5 hp5 hr5 => ?_
    obtain ⟨hc5, _⟩ := hr5
    subst hc5
    refine hp5.storeK (hW.kd k3) ?_ fun H4 k4 => ?_
    · have h0 : ∀ x : Int, IntKind.u8.wrap (IntKind.u8.wrap x) = IntKind.u8.wrap x := fun x => by
        simp only [IntKind.wrap, IntKind.bits, IntKind.signed]; simp
      exact h0 _
    try simp only [sv_cons, sv_cons1, sc_cons, sc_cons1, asB_bool, ifB_true, ifB_false, un_not, bin_lss, bin_leq, bin_gtr, bin_geq, bin_eql, bin_neq, bin_add, bin_sub, bin_mul, ok_int, ok_bool, ok_slice, ok_str, ok_ptr, ok_map, ok_func, ok_iface, ok_nil, List.all_cons, List.all_nil, Bool.and_true, Bool.true_and, seg, setSeg, List.drop_succ_cons, List.drop_zero, List.take_succ_cons, List.take_zero, List.cons_append, List.nil_append, List.append_nil, List.length_cons, List.length_nil, List.drop_nil, List.size_toArray, Nat.reduceAdd, Nat.reduceLeDiff, Nat.reduceBEq, Nat.zero_add, Nat.le_refl, decide_true, mkV, List.headD_cons, cellsV, w_fldV, w_ext, w_fldP, List.getElem?_toArray, List.getElem?_cons_zero, List.getElem?_cons_succ, beq_self_eq_true, selV]
    rw [wrap_i64 (by unfold i64; omega)]
    exact hK3 _ _ (by omega) ⟨k3.trans k4, by simp⟩
  · try simp only [sv_cons, sv_cons1, sc_cons, sc_cons1, asB_bool, ifB_true, ifB_false, un_not, bin_lss, bin_leq, bin_gtr, bin_geq, bin_eql, bin_neq, bin_add, bin_sub, bin_mul, ok_int, ok_bool, ok_slice, ok_str, ok_ptr, ok_map, ok_func, ok_iface, ok_nil, List.all_cons, List.all_nil, Bool.and_true, Bool.true_and, seg, setSeg, List.drop_succ_cons, List.drop_zero, List.take_succ_cons, List.take_zero, List.cons_append, List.nil_append, List.append_nil, List.length_cons, List.length_nil, List.drop_nil, List.size_toArray, Nat.reduceAdd, Nat.reduceLeDiff, Nat.reduceBEq, Nat.zero_add, Nat.le_refl, decide_true, mkV, List.headD_cons, cellsV, w_fldV, w_ext, w_fldP, List.getElem?_toArray, List.getElem?_cons_zero, List.getElem?_cons_succ, beq_self_eq_true, selV]
    rw [wrap_i64 (by unfold i64; omega)]
    exact hK _ _ (by omega) ⟨k3, by simp⟩

end Go.Proofs.Ytccdoecccaocjaa
