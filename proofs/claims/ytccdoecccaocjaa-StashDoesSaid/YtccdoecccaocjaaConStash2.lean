/- Contracts: blocks are put into a stash, dropped, added. -/
import Derived.Test.YtccdoecccaocjaaConStash
namespace Go.Proofs.Ytccdoecccaocjaa
open Go.Ab Go.Md
set_option linter.unusedVariables false
set_option linter.unusedSimpArgs false
set_option maxRecDepth 20000

variable {H : Heap} {Q : Value → Heap → Prop} {A B C : Nat → Prop}

theorem ovB : ∃ (fn : Func) (tS tR e : TypeId), Try.prog.funcs[fn_slices_overlaps_api_Block]? = some fn ∧ (fn.name == "runtime.NumGoroutine") = false ∧ fn.body.isNone = true ∧ Extern.findNext fn = none ∧
    Extern.find fn = some (Extern.SlicesOverlaps.overlaps #[tS, tS] #[tR]) ∧ Try.prog.underlying tS = some (.slice e) ∧ szOf Try.prog e = some 3 :=
  ⟨(match Try.prog.funcs[fn_slices_overlaps_api_Block]? with | some f => f | none => Try.f0),
   ((match Try.prog.funcs[fn_slices_overlaps_api_Block]? with | some f => f | none => Try.f0).params.getD 0 0), ((match Try.prog.funcs[fn_slices_overlaps_api_Block]? with | some f => f | none => Try.f0).resultTypes.getD 0 0),
   (match Try.prog.underlying ((match Try.prog.funcs[fn_slices_overlaps_api_Block]? with | some f => f | none => Try.f0).params.getD 0 0) with | some (.slice e) => e | _ => 0),
   by kernel_rfl, by kernel_rfl, by kernel_rfl, by kernel_rfl, by kernel_rfl, by kernel_rfl, by kernel_rfl⟩

theorem c_Insert_Block {v u : Value} {xs ys : List Blk} {b b2 i : Nat} (h : Ow rBlk H b A v xs) (hu : Ow rBlk H b2 B u ys) (hi : i ≤ xs.length) (hy : 0 < ys.length) (hb2 : b2 ≠ b) (hd : ∀ y, (A y ∨ B y) → y < H.size → y + 1 ≠ b)
    (hl : xs.length + ys.length ≤ 1000000) (hQ : ∀ w H' b', Ow rBlk H' b' (fun y => (A y ∨ B y) ∧ y < H.size) w (insL xs i ys) → Fr (fun y => y + 1 ≠ b) H H' → (b' = b ∨ b' = H.size + 1) → Q w H') :
    callV Try.prog (fnV fn_slices_Insert_api_Block_api_Block) [v, .int .i64 (i : Int), u] H Q := by
  apply S_slices_Insert_api_Block_api_Block_of
  obtain ⟨fn, tS, tR, e, q1, q2, q3, q4, q5, q6, q7⟩ := ovB
  exact ins_of (R := rBlk) (n := 3) (rot := fun t91 t14 H K => callV Try.prog (fnV fn_slices_rotateRight_api_Block) [t91, t14] H K) h hu rfl (by decide) rfl hi hy hb2 hd (by omega) (by omega)
    (fun ka kb oa ob la ca lb cb xa xb ea eb K h1 h2 h3 h4 h5 => xc_apart q1 q2 q3 q4 q5 q6 q7 h1 h2 h3 h4 h5) hQ

theorem c_Delete_Block {v : Value} {xs : List Blk} {b i j : Nat} (h : Ow rBlk H b A v xs) (hij : i < j) (hj : j ≤ xs.length) (hd : ∀ y, A y → y < H.size → y + 1 ≠ b)
    (hQ : ∀ w H', Ow rBlk H' b A w (delL xs i j) → Fr (fun y => y + 1 ≠ b) H H' → Q w H') :
    callV Try.prog (fnV fn_slices_Delete_api_Block_api_Block) [v, .int .i64 (i : Int), .int .i64 (j : Int)] H Q := by
  apply S_slices_Delete_api_Block_api_Block_of
  exact del_of (R := rBlk) (n := 3) h rfl (by decide) rfl hij hj hd hQ

theorem c_stash_put {b0 : Nat} {v w : Value} {s : List Blk} {b : Blk} (h : Ow rBlk H b0 A v s) (hA : ∀ y, A y → y < H.size → y + 1 ≠ b0) (hw : Sl rU8 H B w b.data) (hu : Up s) (hl : s.length ≤ 1000) (hf : b.data.length ≤ 1000000)
    (hQ : ∀ u H' b', Ow rBlk H' b' (fun y => (A y ∧ y < H.size) ∨ (H.size ≤ y ∧ y + 1 ≠ b')) u (withB s b) → Fr (fun y => y + 1 ≠ b0) H H' → (b' = b0 ∨ H.size < b') → Q u H') :
    callV Try.prog (fnV fn_stash_put) [v, vBlk b w] H Q := by
  apply S_stash_put_of
  unfold S_stash_put
  have hbl := h.lt
  refine newT_of fun H1 g1 s1 => c_stash_ids h.okcv fun H2 g2 _ => ?_
  have g12 := g1.trans g2
  refine c_stash_find ((h.g g12).sl (A' := fun _ => True) (fun _ _ _ => trivial) fun _ _ => trivial) hu (by omega) fun H3 g3 => ?_
  have g := g12.trans g3
  have hg := g.size
  try simp only [sv_cons, sv_cons1, sc_cons, sc_cons1, asB_bool, ifB_true, ifB_false, un_not, bin_lss, bin_leq, bin_gtr, bin_geq, bin_eql, bin_neq, bin_add, bin_sub, bin_mul, ok_int, ok_bool, ok_slice, ok_str, ok_ptr, ok_map, ok_func, ok_iface, ok_nil, List.all_cons, List.all_nil, Bool.and_true, Bool.true_and, seg, setSeg, List.drop_succ_cons, List.drop_zero, List.take_succ_cons, List.take_zero, List.cons_append, List.nil_append, List.append_nil, List.length_cons, List.length_nil, List.drop_nil, List.size_toArray, Nat.reduceAdd, Nat.reduceLeDiff, Nat.reduceBEq, Nat.zero_add, Nat.le_refl, decide_true, mkV, List.headD_cons, cellsV, w_fldV, w_ext, w_fldP, List.getElem?_toArray, List.getElem?_cons_zero, List.getElem?_cons_succ, beq_self_eq_true, selV]
  cases hh : hasB s b.id with
  | true =>
    try simp only [sv_cons, sv_cons1, sc_cons, sc_cons1, asB_bool, ifB_true, ifB_false, un_not, bin_lss, bin_leq, bin_gtr, bin_geq, bin_eql, bin_neq, bin_add, bin_sub, bin_mul, ok_int, ok_bool, ok_slice, ok_str, ok_ptr, ok_map, ok_func, ok_iface, ok_nil, List.all_cons, List.all_nil, Bool.and_true, Bool.true_and, seg, setSeg, List.drop_succ_cons, List.drop_zero, List.take_succ_cons, List.take_zero, List.cons_append, List.nil_append, List.append_nil, List.length_cons, List.length_nil, List.drop_nil, List.size_toArray, Nat.reduceAdd, Nat.reduceLeDiff, Nat.reduceBEq, Nat.zero_add, Nat.le_refl, decide_true, mkV, List.headD_cons, cellsV, w_fldV, w_ext, w_fldP, List.getElem?_toArray, List.getElem?_cons_zero, List.getElem?_cons_succ, beq_self_eq_true, selV]
    obtain ⟨x, hx, _⟩ := (hasB_place hu).1 hh
    refine c_slot_Twin (hw.g g) (by unfold fits; omega) fun w2 H4 hw2 g4 => ?_
    have hg4 := g4.size
    have ho := ((h.mono (A' := fun y => (A y ∧ y < H.size) ∨ (H.size ≤ y ∧ y + 1 ≠ b0)) fun y hy hlt => .inl ⟨hy, hlt⟩).g (g.trans g4))
    refine ho.put (x := b) (vrep_blk (hw2.mono fun y hy hlt => .inr ⟨by omega, by omega⟩)) rfl (fun h => by cases h) (List.getElem?_eq_some_iff.1 hx).1 (fun y hy hlt => ?_) fun H5 ho5 f5 s5 => ?_
    · rcases hy with hy | hy
      · exact hA y hy.1 hy.2
      · exact hy.2
    rw [put_set hu hh] at ho5
    exact hQ v H5 b0 ho5 (Fr.trans (g.trans g4) f5 fun y _ hy => ⟨trivial, hy⟩) (.inl rfl)
  | false =>
    try simp only [sv_cons, sv_cons1, sc_cons, sc_cons1, asB_bool, ifB_true, ifB_false, un_not, bin_lss, bin_leq, bin_gtr, bin_geq, bin_eql, bin_neq, bin_add, bin_sub, bin_mul, ok_int, ok_bool, ok_slice, ok_str, ok_ptr, ok_map, ok_func, ok_iface, ok_nil, List.all_cons, List.all_nil, Bool.and_true, Bool.true_and, seg, setSeg, List.drop_succ_cons, List.drop_zero, List.take_succ_cons, List.take_zero, List.cons_append, List.nil_append, List.append_nil, List.length_cons, List.length_nil, List.drop_nil, List.size_toArray, Nat.reduceAdd, Nat.reduceLeDiff, Nat.reduceBEq, Nat.zero_add, Nat.le_refl, decide_true, mkV, List.headD_cons, cellsV, w_fldV, w_ext, w_fldP, List.getElem?_toArray, List.getElem?_cons_zero, List.getElem?_cons_succ, beq_self_eq_true, selV]
    refine c_slot_Twin (hw.g g) (by unfold fits; omega) fun w2 H4 hw2 g4 => ?_
    have hg4 := g4.size
    refine bld_one (vrep_blk hw2) rfl (fun h => by cases h) rfl fun t H5 ht g5 s5 => ?_
    have gg := (g.trans g4).trans g5
    have hp := place_le (s := s) (n := b.id)
    refine c_Insert_Block (h.mono (A' := fun y => A y ∧ y < H.size) (fun y hy hlt => ⟨hy, hlt⟩) |>.g gg) ht hp (by simp) (by omega) (fun y hy hlt => ?_) (by simp; omega) fun u H6 b6 hu6 f6 hb6 => ?_
    · rcases hy with hy | hy
      · exact hA y hy.1 hy.2
      · omega
    rw [show insL s (placeB s b.id) [b] = withB s b from put_ins hu hh] at hu6
    refine hQ u H6 b6 (hu6.mono fun y hy _ => ?_) (Fr.trans gg f6 fun y _ hy => ⟨trivial, hy⟩) (by omega)
    rcases hy.1 with hy1 | hy1
    · exact .inl hy1
    · exact .inr ⟨by omega, by omega⟩

theorem c_stash_Put {l : Lvl} {v w : Value} {s : List Blk} {b : Blk} (hw : i64 l.width) (hv : Sl rBlk H A v s) (hb : Sl rU8 H B w b.data) (hl : s.length ≤ 1000) (hQ : ∀ u H', Sl rBlk H' (fun y => H.size ≤ y) u (putV l s b) → G H H' → Q (tup2 u (.int .i64 (putE l s b))) H') :
    callV Try.prog (fnV fn_stash_Put) [.agg (cLvl l).toArray, v, vBlk b w] H Q := by
  apply S_stash_Put_of
  unfold S_stash_Put
  refine newT_of fun H1 g1 s1 => newT_of fun H2 g2 s2 => ?_
  have g12 := g1.trans g2
  refine join_of (fun st H' => G H H' ∧ st = [[.bool (decide (putE l s b ≠ 0))]]) (fun K hK => c_stash_Check hw (hv.g g12) (by omega) fun H3 g3 => ?_) ?_
  · have g := g12.trans g3
    try simp only [sv_cons, sv_cons1, sc_cons, sc_cons1, asB_bool, ifB_true, ifB_false, un_not, bin_lss, bin_leq, bin_gtr, bin_geq, bin_eql, bin_neq, bin_add, bin_sub, bin_mul, ok_int, ok_bool, ok_slice, ok_str, ok_ptr, ok_map, ok_func, ok_iface, ok_nil, List.all_cons, List.all_nil, Bool.and_true, Bool.true_and, seg, setSeg, List.drop_succ_cons, List.drop_zero, List.take_succ_cons, List.take_zero, List.cons_append, List.nil_append, List.append_nil, List.length_cons, List.length_nil, List.drop_nil, List.size_toArray, Nat.reduceAdd, Nat.reduceLeDiff, Nat.reduceBEq, Nat.zero_add, Nat.le_refl, decide_true, mkV, List.headD_cons, cellsV, w_fldV, w_ext, w_fldP, List.getElem?_toArray, List.getElem?_cons_zero, List.getElem?_cons_succ, beq_self_eq_true, selV]
    refine ifD_of (fun h => hK _ _ ⟨g, jb_t (by unfold putE; rw [if_neg (fun hh => h hh.1)]; omega)⟩) (fun h => ?_)
    have h := Classical.not_not.1 h
    refine c_slot_Check hw (hb.g g) fun H4 g4 => ?_
    try simp only [sv_cons, sv_cons1, sc_cons, sc_cons1, asB_bool, ifB_true, ifB_false, un_not, bin_lss, bin_leq, bin_gtr, bin_geq, bin_eql, bin_neq, bin_add, bin_sub, bin_mul, ok_int, ok_bool, ok_slice, ok_str, ok_ptr, ok_map, ok_func, ok_iface, ok_nil, List.all_cons, List.all_nil, Bool.and_true, Bool.true_and, seg, setSeg, List.drop_succ_cons, List.drop_zero, List.take_succ_cons, List.take_zero, List.cons_append, List.nil_append, List.append_nil, List.length_cons, List.length_nil, List.drop_nil, List.size_toArray, Nat.reduceAdd, Nat.reduceLeDiff, Nat.reduceBEq, Nat.zero_add, Nat.le_refl, decide_true, mkV, List.headD_cons, cellsV, w_fldV, w_ext, w_fldP, List.getElem?_toArray, List.getElem?_cons_zero, List.getElem?_cons_succ, beq_self_eq_true, selV]
    refine hK _ _ ⟨g.trans g4, jb_d ?_⟩
    unfold putE
    by_cases hm : blkE l b = 0
    · rw [if_pos ⟨h, hm⟩]; simp [hm]
    · rw [if_neg (fun hh => hm hh.2)]; simp [hm]
  rintro st H3 ⟨g, rfl⟩
  try simp only [sv_cons, sv_cons1, sc_cons, sc_cons1, asB_bool, ifB_true, ifB_false, un_not, bin_lss, bin_leq, bin_gtr, bin_geq, bin_eql, bin_neq, bin_add, bin_sub, bin_mul, ok_int, ok_bool, ok_slice, ok_str, ok_ptr, ok_map, ok_func, ok_iface, ok_nil, List.all_cons, List.all_nil, Bool.and_true, Bool.true_and, seg, setSeg, List.drop_succ_cons, List.drop_zero, List.take_succ_cons, List.take_zero, List.cons_append, List.nil_append, List.append_nil, List.length_cons, List.length_nil, List.drop_nil, List.size_toArray, Nat.reduceAdd, Nat.reduceLeDiff, Nat.reduceBEq, Nat.zero_add, Nat.le_refl, decide_true, mkV, List.headD_cons, cellsV, w_fldV, w_ext, w_fldP, List.getElem?_toArray, List.getElem?_cons_zero, List.getElem?_cons_succ, beq_self_eq_true, selV]
  refine ifD_of (fun h => ?_) (fun h => ?_)
  · have e : putE l s b = 8 := by unfold putE at h ⊢; split <;> simp_all
    have := hQ (.slice none 0 0) H3 (by unfold putV; rw [if_neg h]; exact Sl.nil _ _ _ _ _) g
    rw [e] at this
    exact this
  · have h := Classical.not_not.1 h
    have h2 : stE l s = 0 ∧ blkE l b = 0 := Classical.byContradiction fun hh => by unfold putE at h; rw [if_neg hh] at h; cases h
    obtain ⟨hs0, hm⟩ := stE_0.1 h2.1
    refine c_stash_Twin (hv.g g) (by omega) (fun x hx => by have := may_fits (stMay_mem hm x hx) hs0; unfold fits; omega) fun u H4 hu => ?_
    obtain ⟨g4, b4, ho, hb4⟩ := hu
    refine c_stash_put ho (fun y hy _ => hy.2) (hb.g (g.trans g4)) (stMay_up hm) hl (by have := may_fits (blkE_0.1 h2.2).2 hs0; omega) fun u2 H5 b5 ho5 f5 hb5 => ?_
    have hg := g.size
    have hg4 := g4.size
    have g5 : G H H5 := (g.trans g4).then f5 fun y hy => by omega
    have := hQ u2 H5 (by
      unfold putV; rw [if_pos h]
      exact ho5.sl (fun y hy _ => by omega) fun k hk => by omega) g5
    rw [h] at this
    exact this

theorem c_stash_Drop {l : Lvl} {v : Value} {s : List Blk} {n : Int} (hw : i64 l.width) (hv : Sl rBlk H A v s) (hl : s.length ≤ 1000) (hQ : ∀ u H', Sl rBlk H' (fun y => H.size ≤ y) u (dropV l s n) → G H H' → Q (tup2 u (.int .i64 (dropE l s n))) H') :
    callV Try.prog (fnV fn_stash_Drop) [.agg (cLvl l).toArray, v, .int .i64 n] H Q := by
  apply S_stash_Drop_of
  unfold S_stash_Drop
  refine newT_of fun H1 g1 s1 => c_stash_Check hw (hv.g g1) (by omega) fun H3 g3 => ?_
  have g := g1.trans g3
  try simp only [sv_cons, sv_cons1, sc_cons, sc_cons1, asB_bool, ifB_true, ifB_false, un_not, bin_lss, bin_leq, bin_gtr, bin_geq, bin_eql, bin_neq, bin_add, bin_sub, bin_mul, ok_int, ok_bool, ok_slice, ok_str, ok_ptr, ok_map, ok_func, ok_iface, ok_nil, List.all_cons, List.all_nil, Bool.and_true, Bool.true_and, seg, setSeg, List.drop_succ_cons, List.drop_zero, List.take_succ_cons, List.take_zero, List.cons_append, List.nil_append, List.append_nil, List.length_cons, List.length_nil, List.drop_nil, List.size_toArray, Nat.reduceAdd, Nat.reduceLeDiff, Nat.reduceBEq, Nat.zero_add, Nat.le_refl, decide_true, mkV, List.headD_cons, cellsV, w_fldV, w_ext, w_fldP, List.getElem?_toArray, List.getElem?_cons_zero, List.getElem?_cons_succ, beq_self_eq_true, selV]
  refine ifD_of (fun h => ?_) (fun h => ?_)
  · have e : dropE l s n = 8 := by unfold dropE; rw [if_neg h]
    have := hQ (.slice none 0 0) H3 (by unfold dropV; rw [e]; exact Sl.nil _ _ _ _ _) g
    rw [e] at this
    rw [stE_8 h]
    exact this
  · have h := Classical.not_not.1 h
    obtain ⟨hs0, hm⟩ := stE_0.1 h
    have hu := stMay_up hm
    refine c_stash_ids hv.okcv fun H4 g4 _ => c_stash_find (hv.g (g.trans g4)) hu (by omega) fun H5 g5 => ?_
    have g := (g.trans g4).trans g5
    try simp only [sv_cons, sv_cons1, sc_cons, sc_cons1, asB_bool, ifB_true, ifB_false, un_not, bin_lss, bin_leq, bin_gtr, bin_geq, bin_eql, bin_neq, bin_add, bin_sub, bin_mul, ok_int, ok_bool, ok_slice, ok_str, ok_ptr, ok_map, ok_func, ok_iface, ok_nil, List.all_cons, List.all_nil, Bool.and_true, Bool.true_and, seg, setSeg, List.drop_succ_cons, List.drop_zero, List.take_succ_cons, List.take_zero, List.cons_append, List.nil_append, List.append_nil, List.length_cons, List.length_nil, List.drop_nil, List.size_toArray, Nat.reduceAdd, Nat.reduceLeDiff, Nat.reduceBEq, Nat.zero_add, Nat.le_refl, decide_true, mkV, List.headD_cons, cellsV, w_fldV, w_ext, w_fldP, List.getElem?_toArray, List.getElem?_cons_zero, List.getElem?_cons_succ, beq_self_eq_true, selV]
    cases hh : hasB s n with
    | false =>
      try simp only [sv_cons, sv_cons1, sc_cons, sc_cons1, asB_bool, ifB_true, ifB_false, un_not, bin_lss, bin_leq, bin_gtr, bin_geq, bin_eql, bin_neq, bin_add, bin_sub, bin_mul, ok_int, ok_bool, ok_slice, ok_str, ok_ptr, ok_map, ok_func, ok_iface, ok_nil, List.all_cons, List.all_nil, Bool.and_true, Bool.true_and, seg, setSeg, List.drop_succ_cons, List.drop_zero, List.take_succ_cons, List.take_zero, List.cons_append, List.nil_append, List.append_nil, List.length_cons, List.length_nil, List.drop_nil, List.size_toArray, Nat.reduceAdd, Nat.reduceLeDiff, Nat.reduceBEq, Nat.zero_add, Nat.le_refl, decide_true, mkV, List.headD_cons, cellsV, w_fldV, w_ext, w_fldP, List.getElem?_toArray, List.getElem?_cons_zero, List.getElem?_cons_succ, beq_self_eq_true, selV, Bool.not_false]
      have e : dropE l s n = 6 := by unfold dropE; rw [if_pos h, hh]; rfl
      have := hQ (.slice none 0 0) H5 (by unfold dropV; rw [e]; exact Sl.nil _ _ _ _ _) g
      rw [e] at this
      exact this
    | true =>
      try simp only [sv_cons, sv_cons1, sc_cons, sc_cons1, asB_bool, ifB_true, ifB_false, un_not, bin_lss, bin_leq, bin_gtr, bin_geq, bin_eql, bin_neq, bin_add, bin_sub, bin_mul, ok_int, ok_bool, ok_slice, ok_str, ok_ptr, ok_map, ok_func, ok_iface, ok_nil, List.all_cons, List.all_nil, Bool.and_true, Bool.true_and, seg, setSeg, List.drop_succ_cons, List.drop_zero, List.take_succ_cons, List.take_zero, List.cons_append, List.nil_append, List.append_nil, List.length_cons, List.length_nil, List.drop_nil, List.size_toArray, Nat.reduceAdd, Nat.reduceLeDiff, Nat.reduceBEq, Nat.zero_add, Nat.le_refl, decide_true, mkV, List.headD_cons, cellsV, w_fldV, w_ext, w_fldP, List.getElem?_toArray, List.getElem?_cons_zero, List.getElem?_cons_succ, beq_self_eq_true, selV, Bool.not_true]
      have e : dropE l s n = 0 := by unfold dropE; rw [if_pos h, hh]; rfl
      obtain ⟨b, hb, _⟩ := (hasB_place hu).1 hh
      have hlt := (List.getElem?_eq_some_iff.1 hb).1
      refine c_stash_Twin (hv.g g) (by omega) (fun x hx => by have := may_fits (stMay_mem hm x hx) hs0; unfold fits; omega) fun u H6 hu6 => ?_
      obtain ⟨g6, b6, ho, hb6⟩ := hu6
      rw [wrap_i64 (by unfold i64; omega), show ((placeB s n : Nat) : Int) + 1 = ((placeB s n + 1 : Nat) : Int) by omega]
      refine c_Delete_Block ho (by omega) (by omega) (fun y hy _ => hy.2) fun w H7 ho7 f7 => ?_
      rw [show delL s (placeB s n) (placeB s n + 1) = withoutB s n from drop_del hu hh] at ho7
      try simp only [sv_cons, sv_cons1, sc_cons, sc_cons1, asB_bool, ifB_true, ifB_false, un_not, bin_lss, bin_leq, bin_gtr, bin_geq, bin_eql, bin_neq, bin_add, bin_sub, bin_mul, ok_int, ok_bool, ok_slice, ok_str, ok_ptr, ok_map, ok_func, ok_iface, ok_nil, List.all_cons, List.all_nil, Bool.and_true, Bool.true_and, seg, setSeg, List.drop_succ_cons, List.drop_zero, List.take_succ_cons, List.take_zero, List.cons_append, List.nil_append, List.append_nil, List.length_cons, List.length_nil, List.drop_nil, List.size_toArray, Nat.reduceAdd, Nat.reduceLeDiff, Nat.reduceBEq, Nat.zero_add, Nat.le_refl, decide_true, mkV, List.headD_cons, cellsV, w_fldV, w_ext, w_fldP, List.getElem?_toArray, List.getElem?_cons_zero, List.getElem?_cons_succ, beq_self_eq_true, selV]
      have hg := g.size
      have hg6 := g6.size
      have := hQ w H7 (by unfold dropV; rw [if_pos e]; exact ho7.sl (fun y hy _ => by omega) fun k hk => by omega) ((g.trans g6).then f7 fun y hy => by omega)
      rw [e] at this
      exact this

theorem c_stash_Add_1 {a : Nat} {v : Value} {s : List Blk} {n : Int} (ha : Bx H a [v]) (hv : Sl rBlk H A v s) (hu : Up s) (hl : s.length ≤ 1000000) (hQ : ∀ H', G H H' → Q (.bool (hasB s n)) H') :
    callV Try.prog (.func (.func fn_stash_Add_1) #[] #[.pointer (some ⟨a, 0, none⟩)]) [.int .i64 n] H Q := by
  apply C_stash_Add_1_of
  unfold S_stash_Add_1
  refine ha.load rfl (c_stash_ids (by exact hv.okcv) fun H2 g2 _ => c_stash_find (hv.g g2) hu hl fun H3 g3 => ?_)
  try simp only [sv_cons, sv_cons1, sc_cons, sc_cons1, asB_bool, ifB_true, ifB_false, un_not, bin_lss, bin_leq, bin_gtr, bin_geq, bin_eql, bin_neq, bin_add, bin_sub, bin_mul, ok_int, ok_bool, ok_slice, ok_str, ok_ptr, ok_map, ok_func, ok_iface, ok_nil, List.all_cons, List.all_nil, Bool.and_true, Bool.true_and, seg, setSeg, List.drop_succ_cons, List.drop_zero, List.take_succ_cons, List.take_zero, List.cons_append, List.nil_append, List.append_nil, List.length_cons, List.length_nil, List.drop_nil, List.size_toArray, Nat.reduceAdd, Nat.reduceLeDiff, Nat.reduceBEq, Nat.zero_add, Nat.le_refl, decide_true, mkV, List.headD_cons, cellsV, w_fldV, w_ext, w_fldP, List.getElem?_toArray, List.getElem?_cons_zero, List.getElem?_cons_succ, beq_self_eq_true, selV]
  exact hQ H3 (g2.trans g3)

theorem addF_snoc {l : Lvl} : ∀ {more s : List Blk} {b : Blk}, addF l s (more ++ [b]) = (addF l s more).bind fun t => if blkMay l b && !hasB t b.id then some (withB t b) else none
  | [], s, b => by
    simp only [List.nil_append, addF, Option.bind_some]
  | x :: more, s, b => by
    simp only [List.cons_append, addF]
    split
    · exact addF_snoc
    · rfl
theorem addF_stop {l : Lvl} : ∀ {more more' s : List Blk}, addF l s more = none → addF l s (more ++ more') = none
  | [], _, _, h => by cases h
  | x :: more, more', s, h => by
    simp only [List.cons_append, addF] at h ⊢
    split
    · rename_i hx; rw [if_pos hx] at h; exact addF_stop h
    · rfl
theorem addV_bad {l : Lvl} {s more : List Blk} (h : addE l s more ≠ 0) : addE l s more = 8 ∧ addV l s more = [] := by
  unfold addE at h ⊢
  unfold addV
  split
  · rename_i h1
    rw [if_pos h1] at h
    cases hx : addF l s more with
    | none => exact ⟨rfl, rfl⟩
    | some t => rw [hx] at h; exact absurd rfl h
  · exact ⟨rfl, rfl⟩

theorem c_stash_Add {l : Lvl} {v w : Value} {s more : List Blk} (hwd : i64 l.width) (hv : Sl rBlk H A v s) (hw : Sl rBlk H B w more) (hl : s.length ≤ 500) (hl2 : more.length ≤ 400)
    (hQ : ∀ u H', Sl rBlk H' (fun y => H.size ≤ y) u (addV l s more) → G H H' → Q (tup2 u (.int .i64 (addE l s more))) H') : callV Try.prog (fnV fn_stash_Add) [.agg (cLvl l).toArray, v, w] H Q := by
  apply S_stash_Add_of
  unfold S_stash_Add
  have bad : ∀ H', G H H' → addE l s more ≠ 0 → Q (tup2 (.slice none 0 0) (.int .i64 8)) H' := fun H' g h => by
    obtain ⟨e1, e2⟩ := addV_bad h
    have := hQ (.slice none 0 0) H' (by rw [e2]; exact Sl.nil _ _ _ _ _) g
    rw [e1] at this
    exact this
  refine newT_of fun H1 g1 s1 => c_stash_Check hwd (hv.g g1) (by omega) fun H3 g3 => ?_
  have g := g1.trans g3
  try simp only [sv_cons, sv_cons1, sc_cons, sc_cons1, asB_bool, ifB_true, ifB_false, un_not, bin_lss, bin_leq, bin_gtr, bin_geq, bin_eql, bin_neq, bin_add, bin_sub, bin_mul, ok_int, ok_bool, ok_slice, ok_str, ok_ptr, ok_map, ok_func, ok_iface, ok_nil, List.all_cons, List.all_nil, Bool.and_true, Bool.true_and, seg, setSeg, List.drop_succ_cons, List.drop_zero, List.take_succ_cons, List.take_zero, List.cons_append, List.nil_append, List.append_nil, List.length_cons, List.length_nil, List.drop_nil, List.size_toArray, Nat.reduceAdd, Nat.reduceLeDiff, Nat.reduceBEq, Nat.zero_add, Nat.le_refl, decide_true, mkV, List.headD_cons, cellsV, w_fldV, w_ext, w_fldP, List.getElem?_toArray, List.getElem?_cons_zero, List.getElem?_cons_succ, beq_self_eq_true, selV]
  refine ifD_of (fun h => by rw [stE_8 h]; exact bad _ g (by unfold addE; rw [if_neg h]; omega)) (fun h => ?_)
  have h := Classical.not_not.1 h
  obtain ⟨hs0, hm⟩ := stE_0.1 h
  refine c_stash_Twin (hv.g g) (by omega) (fun x hx => by have := may_fits (stMay_mem hm x hx) hs0; unfold fits; omega) fun u H4 hu => ?_
  obtain ⟨g4, b4, ho, hb4⟩ := hu
  have hbl := ho.lt
  have g := g.trans g4
  refine newC_bx fun H5 ha g5 s5 => ha.store ho.okcv fun H6 ha f6 s6 => hw.len ?_
  have hg := g.size
  have hG6 : G H H6 := (g.trans g5).then f6 fun y hy => by omega
  have ho6 := ((ho.mono (A' := fun y => H.size ≤ y ∧ y ≠ H4.size ∧ y + 1 ≠ b4) fun y hy hlt => ⟨by have := g3.size; have := g1.size; omega, by omega, hy.2⟩).g g5).up f6 fun y hy hlt => by omega
  have hs13 := g3.size
  have hs11 := g1.size
  have hs4 := g4.size
  refine loop_up more.length (fun i st H' => ∃ u t b, Ow rBlk H' b (fun y => H.size ≤ y ∧ y ≠ H4.size ∧ y + 1 ≠ b) u t ∧ b ≠ H4.size + 1 ∧ (b = 0 ∨ H.size < b) ∧ Bx H' H4.size [u] ∧ G H H' ∧ H6.size ≤ H'.size ∧ addF l s (more.take i) = some t ∧ Up t ∧ t.length ≤ s.length + i ∧ st = [[.int .i64 (i : Int)]])
    ⟨u, s, b4, ho6, by omega, by omega, ha, hG6, Nat.le_refl _, by simp [addF], stMay_up hm, by omega, rfl⟩ ?_
  rintro i st H' K hi ⟨u, t, b, ho, hne, hb0, ha, g, hsz, hadd, hut, htl, rfl⟩ hK
  try simp only [sv_cons, sv_cons1, sc_cons, sc_cons1, asB_bool, ifB_true, ifB_false, un_not, bin_lss, bin_leq, bin_gtr, bin_geq, bin_eql, bin_neq, bin_add, bin_sub, bin_mul, ok_int, ok_bool, ok_slice, ok_str, ok_ptr, ok_map, ok_func, ok_iface, ok_nil, List.all_cons, List.all_nil, Bool.and_true, Bool.true_and, seg, setSeg, List.drop_succ_cons, List.drop_zero, List.take_succ_cons, List.take_zero, List.cons_append, List.nil_append, List.append_nil, List.length_cons, List.length_nil, List.drop_nil, List.size_toArray, Nat.reduceAdd, Nat.reduceLeDiff, Nat.reduceBEq, Nat.zero_add, Nat.le_refl, decide_true, mkV, List.headD_cons, cellsV, w_fldV, w_ext, w_fldP, List.getElem?_toArray, List.getElem?_cons_zero, List.getElem?_cons_succ, beq_self_eq_true, selV]
  refine ifD_of (fun h1 => ?_) (fun h1 => ?_)
  · have hlt : i < more.length := by omega
    have hx : more[i]? = some more[i] := List.getElem?_eq_getElem hlt
    have hstep : addF l s (more.take (i + 1)) = if blkMay l more[i] && !hasB t more[i].id then some (withB t more[i]) else none := by
      rw [List.take_succ_eq_append_getElem hlt, addF_snoc, hadd]; rfl
    refine (hw.g g).get rfl hx fun cs ⟨w2, hc, hw2⟩ => newT_of fun H7 g7 s7 => ?_
    subst hc
    have hok := hw2.okcv
    try simp only [sv_cons, sv_cons1, sc_cons, sc_cons1, asB_bool, ifB_true, ifB_false, un_not, bin_lss, bin_leq, bin_gtr, bin_geq, bin_eql, bin_neq, bin_add, bin_sub, bin_mul, ok_int, ok_bool, ok_slice, ok_str, ok_ptr, ok_map, ok_func, ok_iface, ok_nil, List.all_cons, List.all_nil, Bool.and_true, Bool.true_and, seg, setSeg, List.drop_succ_cons, List.drop_zero, List.take_succ_cons, List.take_zero, List.cons_append, List.nil_append, List.append_nil, List.length_cons, List.length_nil, List.drop_nil, List.size_toArray, Nat.reduceAdd, Nat.reduceLeDiff, Nat.reduceBEq, Nat.zero_add, Nat.le_refl, decide_true, mkV, List.headD_cons, cellsV, w_fldV, w_ext, w_fldP, List.getElem?_toArray, List.getElem?_cons_zero, List.getElem?_cons_succ, beq_self_eq_true, selV, hok]
    refine join_of (fun st H8 => G H' H8 ∧ ∃ c : Bool, st = [[.bool c]] ∧ (c = false ↔ (blkMay l more[i] && !hasB t more[i].id) = true)) (fun K hK => c_slot_Check hwd (hw2.g g7) fun H8 g8 => ?_) ?_
    · try simp only [sv_cons, sv_cons1, sc_cons, sc_cons1, asB_bool, ifB_true, ifB_false, un_not, bin_lss, bin_leq, bin_gtr, bin_geq, bin_eql, bin_neq, bin_add, bin_sub, bin_mul, ok_int, ok_bool, ok_slice, ok_str, ok_ptr, ok_map, ok_func, ok_iface, ok_nil, List.all_cons, List.all_nil, Bool.and_true, Bool.true_and, seg, setSeg, List.drop_succ_cons, List.drop_zero, List.take_succ_cons, List.take_zero, List.cons_append, List.nil_append, List.append_nil, List.length_cons, List.length_nil, List.drop_nil, List.size_toArray, Nat.reduceAdd, Nat.reduceLeDiff, Nat.reduceBEq, Nat.zero_add, Nat.le_refl, decide_true, mkV, List.headD_cons, cellsV, w_fldV, w_ext, w_fldP, List.getElem?_toArray, List.getElem?_cons_zero, List.getElem?_cons_succ, beq_self_eq_true, selV]
      refine ifD_of (fun h2 => hK _ _ ⟨g7.trans g8, true, rfl, ?_⟩) (fun h2 => ?_)
      · have : blkMay l more[i] = false := by
          cases hb : blkMay l more[i] with
          | false => rfl
          | true => exact absurd (blkE_0.2 ⟨hs0, hb⟩) h2
        rw [this]; simp
      · have hb := (blkE_0.1 (Classical.not_not.1 h2)).2
        have gg := g7.trans g8
        refine c_stash_Add_1 (ha.g gg) ((ho.g gg).sl (A' := fun _ => True) (fun _ _ _ => trivial) fun _ _ => trivial) hut (by omega) fun H9 g9 => hK _ _ ⟨gg.trans g9, _, rfl, ?_⟩
        rw [hb, Bool.true_and]
        cases hasB t more[i].id <;> simp
    rintro st H8 ⟨g8, c, rfl, hc⟩
    try simp only [sv_cons, sv_cons1, sc_cons, sc_cons1, asB_bool, ifB_true, ifB_false, un_not, bin_lss, bin_leq, bin_gtr, bin_geq, bin_eql, bin_neq, bin_add, bin_sub, bin_mul, ok_int, ok_bool, ok_slice, ok_str, ok_ptr, ok_map, ok_func, ok_iface, ok_nil, List.all_cons, List.all_nil, Bool.and_true, Bool.true_and, seg, setSeg, List.drop_succ_cons, List.drop_zero, List.take_succ_cons, List.take_zero, List.cons_append, List.nil_append, List.append_nil, List.length_cons, List.length_nil, List.drop_nil, List.size_toArray, Nat.reduceAdd, Nat.reduceLeDiff, Nat.reduceBEq, Nat.zero_add, Nat.le_refl, decide_true, mkV, List.headD_cons, cellsV, w_fldV, w_ext, w_fldP, List.getElem?_toArray, List.getElem?_cons_zero, List.getElem?_cons_succ, beq_self_eq_true, selV]
    refine ifB_of (fun h2 => bad _ (g.trans g8) ?_) (fun h2 => ?_)
    · have e : addF l s more = none := by
        rw [← List.take_append_drop (i + 1) more]
        refine addF_stop ?_
        rw [hstep, if_neg (fun hh => by have := hc.2 hh; rw [h2] at this; cases this)]
      unfold addE
      rw [if_pos h, e]; simp
    · have hcc := hc.1 h2
      rw [if_pos hcc] at hstep
      rw [Bool.and_eq_true] at hcc
      have hg8 := g8.size
      refine (ha.g g8).load rfl ?_
      refine c_stash_put (ho.g g8) (fun y hy _ => hy.2.2) (hw2.g g8) hut (by omega) (by have := may_fits hcc.1 hs0; omega) fun u2 H9 b9 ho9 f9 hb9 => ?_
      have ha9 := (ha.g g8).up f9 (show H4.size + 1 ≠ b by omega)
      refine ha9.store ho9.okcv fun H10 ha10 f10 s10 => ?_
      try simp only [sv_cons, sv_cons1, sc_cons, sc_cons1, asB_bool, ifB_true, ifB_false, un_not, bin_lss, bin_leq, bin_gtr, bin_geq, bin_eql, bin_neq, bin_add, bin_sub, bin_mul, ok_int, ok_bool, ok_slice, ok_str, ok_ptr, ok_map, ok_func, ok_iface, ok_nil, List.all_cons, List.all_nil, Bool.and_true, Bool.true_and, seg, setSeg, List.drop_succ_cons, List.drop_zero, List.take_succ_cons, List.take_zero, List.cons_append, List.nil_append, List.append_nil, List.length_cons, List.length_nil, List.drop_nil, List.size_toArray, Nat.reduceAdd, Nat.reduceLeDiff, Nat.reduceBEq, Nat.zero_add, Nat.le_refl, decide_true, mkV, List.headD_cons, cellsV, w_fldV, w_ext, w_fldP, List.getElem?_toArray, List.getElem?_cons_zero, List.getElem?_cons_succ, beq_self_eq_true, selV]
      rw [wrap_i64 (by unfold i64; omega)]
      have hs9 := f9.size
      have hG : G H H10 := ((g.trans g8).then f9 fun y hy => by omega).then f10 fun y hy => by omega
      refine hK _ _ hlt ⟨u2, _, b9, (ho9.mono (A' := fun y => H.size ≤ y ∧ y ≠ H4.size ∧ y + 1 ≠ b9) fun y hy hlt => ?_).up f10 fun y hy hlt => by omega, by omega, by omega, ha10, hG, by omega, hstep, withB_up hut _, by have := withB_len hut (b := more[i]); omega, by simp⟩
      have hbl := ho.lt
      have hg1 := g.size
      omega
  · rw [List.take_of_length_le (by omega)] at hadd
    refine ha.load rfl ?_
    have := hQ u H' (by unfold addV; rw [if_pos h, hadd]; exact ho.sl (fun y hy _ => hy.1) fun k hk => by omega) g
    unfold addE at this
    rw [if_pos h, hadd] at this
    exact this

end Go.Proofs.Ytccdoecccaocjaa
