/- Contracts: stashes are as is said. -/
import Derived.Test.YtccdoecccaocjaaConLaw16b
namespace Go.Proofs.Ytccdoecccaocjaa
open Go.Ab Go.Md
set_option linter.unusedVariables false
set_option linter.unusedSimpArgs false
set_option maxRecDepth 20000

variable {H : Heap} {Q : Value → Heap → Prop} {A B C : Nat → Prop}

/-- Within what was made between two heaps. -/
abbrev In (H H' : Heap) : Nat → Prop := fun y => H.size ≤ y ∧ y < H'.size
theorem sl_in {R : Rep Blk} {H' : Heap} {v : Value} {s : List Blk} (h : Sl R H' (fun y => H.size ≤ y) v s) : Sl R H' (In H H') v s := h.mono fun y hy hlt => ⟨hy, hlt⟩
theorem wbl_in {H' : Heap} (h : Wbl (fun y => H.size ≤ y) H') : Wbl (In H H') H' := h.mono fun y hy => hy.1

theorem stV_fits {l : Lvl} {s : List Blk} (h : ∀ b ∈ s, fits b) {b : Blk} (hb : fits b) : True := trivial
theorem putV_small {l : Lvl} {s : List Blk} {b : Blk} : (putV l s b).length ≤ s.length + 1 ∧ ∀ x ∈ putV l s b, x.data.length ≤ 32 := by
  unfold putV
  split
  · rename_i h
    have h2 : stE l s = 0 ∧ blkE l b = 0 := Classical.byContradiction fun hh => by unfold putE at h; rw [if_neg hh] at h; cases h
    obtain ⟨hs0, hm⟩ := stE_0.1 h2.1
    have hu := stMay_up hm
    refine ⟨withB_len hu, fun x hx => ?_⟩
    rcases mem_withB hx with rfl | hx
    · exact may_fits (blkE_0.1 h2.2).2 hs0
    · exact may_fits (stMay_mem hm x hx) hs0
  · simp
theorem dropV_small {l : Lvl} {s : List Blk} {n : Int} : (dropV l s n).length ≤ s.length ∧ ∀ x ∈ dropV l s n, x.data.length ≤ 32 := by
  unfold dropV
  split
  · rename_i h
    have hs : stE l s = 0 := Classical.byContradiction fun hh => by unfold dropE at h; rw [if_neg hh] at h; cases h
    obtain ⟨hs0, hm⟩ := stE_0.1 hs
    exact ⟨List.length_filter_le _ _, fun x hx => may_fits (stMay_mem hm x (List.mem_filter.1 hx).1) hs0⟩
  · simp
theorem addF_small {l : Lvl} : ∀ {more s t : List Blk}, 1 ≤ slotsL l → Up s → (∀ x ∈ s, x.data.length ≤ 32) → addF l s more = some t → t.length ≤ s.length + more.length ∧ ∀ x ∈ t, x.data.length ≤ 32
  | [], s, t, _, _, hf, h => by cases h; exact ⟨by simp, hf⟩
  | b :: more, s, t, h1, hu, hf, h => by
    unfold addF at h
    split at h
    · rename_i hc
      rw [Bool.and_eq_true] at hc
      obtain ⟨k1, k2⟩ := addF_small h1 (withB_up hu b) (fun x hx => by
        rcases mem_withB hx with rfl | hx
        · exact may_fits hc.1 h1
        · exact hf x hx) h
      have := withB_len hu (b := b)
      exact ⟨by simp only [List.length_cons]; omega, k2⟩
    · cases h
theorem addV_small {l : Lvl} {s more : List Blk} : (addV l s more).length ≤ s.length + more.length ∧ ∀ x ∈ addV l s more, x.data.length ≤ 32 := by
  unfold addV
  split
  · rename_i h
    obtain ⟨hs0, hm⟩ := stE_0.1 h
    cases hx : addF l s more with
    | none => simp
    | some t => exact addF_small hs0 (stMay_up hm) (fun x hx => may_fits (stMay_mem hm x hx) hs0) hx
  · simp

theorem c_StashDoes {l : Lvl} {v w z : Value} {s more : List Blk} {b : Blk} {n : Int} (hwd : i64 l.width) (hv : Sl rBlk H A v s) (hb : Sl rU8 H B w b.data) (hz : Sl rBlk H C z more) (hf : ∀ x ∈ s, fits x) (hf2 : ∀ x ∈ more, fits x)
    (hQ : ∀ H', G H H' → Q (.bool true) H') :
    callV Try.prog (fnV fn_law16_StashDoes) [.agg (cLvl l).toArray, v, vBlk b w, .int .i64 n, z] H Q := by
  apply S_law16_StashDoes_of
  unfold S_law16_StashDoes
  refine newT_of fun H1 g1 _ => newT_of fun H2 g2 _ => ?_
  have g := g1.trans g2
  refine join_of (fun st H' => H' = H2 ∧ ∃ c : Bool, st = [[.bool c]] ∧ (c = false → (s.length : Int) ≤ 40 ∧ (more.length : Int) ≤ 20)) (fun K hK => c_ref09_Great (hv.g g) fun c hc => ?_) ?_
  · cases c with
    | true => exact hK _ _ ⟨rfl, true, rfl, fun h => by cases h⟩
    | false =>
      try simp only [sv_cons, sv_cons1, sc_cons, sc_cons1, asB_bool, ifB_true, ifB_false, un_not, bin_lss, bin_leq, bin_gtr, bin_geq, bin_eql, bin_neq, bin_add, bin_sub, bin_mul, ok_int, ok_bool, ok_slice, ok_str, ok_ptr, ok_map, ok_func, ok_iface, ok_nil, List.all_cons, List.all_nil, Bool.and_true, Bool.true_and, seg, setSeg, List.drop_succ_cons, List.drop_zero, List.take_succ_cons, List.take_zero, List.cons_append, List.nil_append, List.append_nil, List.length_cons, List.length_nil, List.drop_nil, List.size_toArray, Nat.reduceAdd, Nat.reduceLeDiff, Nat.reduceBEq, Nat.zero_add, Nat.le_refl, decide_true, mkV, List.headD_cons, cellsV, w_fldV, w_ext, w_fldP, List.getElem?_toArray, List.getElem?_cons_zero, List.getElem?_cons_succ, beq_self_eq_true, selV]
      refine c_ref09_Great (hz.g g) fun c hc2 => ?_
      cases c with
      | true => exact hK _ _ ⟨rfl, true, rfl, fun h => by cases h⟩
      | false =>
        try simp only [sv_cons, sv_cons1, sc_cons, sc_cons1, asB_bool, ifB_true, ifB_false, un_not, bin_lss, bin_leq, bin_gtr, bin_geq, bin_eql, bin_neq, bin_add, bin_sub, bin_mul, ok_int, ok_bool, ok_slice, ok_str, ok_ptr, ok_map, ok_func, ok_iface, ok_nil, List.all_cons, List.all_nil, Bool.and_true, Bool.true_and, seg, setSeg, List.drop_succ_cons, List.drop_zero, List.take_succ_cons, List.take_zero, List.cons_append, List.nil_append, List.append_nil, List.length_cons, List.length_nil, List.drop_nil, List.size_toArray, Nat.reduceAdd, Nat.reduceLeDiff, Nat.reduceBEq, Nat.zero_add, Nat.le_refl, decide_true, mkV, List.headD_cons, cellsV, w_fldV, w_ext, w_fldP, List.getElem?_toArray, List.getElem?_cons_zero, List.getElem?_cons_succ, beq_self_eq_true, selV]
        refine (hb.g g).len ?_
        try simp only [sv_cons, sv_cons1, sc_cons, sc_cons1, asB_bool, ifB_true, ifB_false, un_not, bin_lss, bin_leq, bin_gtr, bin_geq, bin_eql, bin_neq, bin_add, bin_sub, bin_mul, ok_int, ok_bool, ok_slice, ok_str, ok_ptr, ok_map, ok_func, ok_iface, ok_nil, List.all_cons, List.all_nil, Bool.and_true, Bool.true_and, seg, setSeg, List.drop_succ_cons, List.drop_zero, List.take_succ_cons, List.take_zero, List.cons_append, List.nil_append, List.append_nil, List.length_cons, List.length_nil, List.drop_nil, List.size_toArray, Nat.reduceAdd, Nat.reduceLeDiff, Nat.reduceBEq, Nat.zero_add, Nat.le_refl, decide_true, mkV, List.headD_cons, cellsV, w_fldV, w_ext, w_fldP, List.getElem?_toArray, List.getElem?_cons_zero, List.getElem?_cons_succ, beq_self_eq_true, selV]
        exact hK _ _ ⟨rfl, _, rfl, fun _ => ⟨hc rfl, hc2 rfl⟩⟩
  rintro st H4 ⟨rfl, c, rfl, hc⟩
  try simp only [sv_cons, sv_cons1, sc_cons, sc_cons1, asB_bool, ifB_true, ifB_false, un_not, bin_lss, bin_leq, bin_gtr, bin_geq, bin_eql, bin_neq, bin_add, bin_sub, bin_mul, ok_int, ok_bool, ok_slice, ok_str, ok_ptr, ok_map, ok_func, ok_iface, ok_nil, List.all_cons, List.all_nil, Bool.and_true, Bool.true_and, seg, setSeg, List.drop_succ_cons, List.drop_zero, List.take_succ_cons, List.take_zero, List.cons_append, List.nil_append, List.append_nil, List.length_cons, List.length_nil, List.drop_nil, List.size_toArray, Nat.reduceAdd, Nat.reduceLeDiff, Nat.reduceBEq, Nat.zero_add, Nat.le_refl, decide_true, mkV, List.headD_cons, cellsV, w_fldV, w_ext, w_fldP, List.getElem?_toArray, List.getElem?_cons_zero, List.getElem?_cons_succ, beq_self_eq_true, selV]
  refine ifB_of (fun h => hQ _ g) (fun h => ?_)
  obtain ⟨hl, hl2⟩ := hc h
  clear hc
  refine c_ref09_TwinAll (hv.g g) (by omega) hf fun o Ha ho ga => ?_
  have g := g.trans ga
  refine c_ref09_TwinAll (hz.g g) (by omega) hf2 fun mi Hb hmi gb => ?_
  have g := g.trans gb
  have ho := ho.g gb
  have ho := (ho.mono (A' := fun y => y < Hb.size) fun y _ hlt => hlt)
  have hmi := (hmi.mono (A' := fun y => y < Hb.size) fun y _ hlt => hlt)
  have hv := (hv.g g).mono (A' := fun y => y < Hb.size) fun y _ hlt => hlt
  have hz := (hz.g g).mono (A' := fun y => y < Hb.size) fun y _ hlt => hlt
  have hb := (hb.g g).mono (A' := fun y => y < Hb.size) fun y _ hlt => hlt
  -- the answers
  refine c_stash_Find hwd ho (by omega) fun u1 H6 hu1 g6 => ?_
  have hok1 := hu1.okcv
  try simp only [sv_cons, sv_cons1, sc_cons, sc_cons1, asB_bool, ifB_true, ifB_false, un_not, bin_lss, bin_leq, bin_gtr, bin_geq, bin_eql, bin_neq, bin_add, bin_sub, bin_mul, ok_int, ok_bool, ok_slice, ok_str, ok_ptr, ok_map, ok_func, ok_iface, ok_nil, List.all_cons, List.all_nil, Bool.and_true, Bool.true_and, seg, setSeg, List.drop_succ_cons, List.drop_zero, List.take_succ_cons, List.take_zero, List.cons_append, List.nil_append, List.append_nil, List.length_cons, List.length_nil, List.drop_nil, List.size_toArray, Nat.reduceAdd, Nat.reduceLeDiff, Nat.reduceBEq, Nat.zero_add, Nat.le_refl, decide_true, mkV, List.headD_cons, cellsV, w_fldV, w_ext, w_fldP, List.getElem?_toArray, List.getElem?_cons_zero, List.getElem?_cons_succ, beq_self_eq_true, selV]
  refine newT_of fun H7 g7 _ => ?_
  try simp only [sv_cons, sv_cons1, sc_cons, sc_cons1, asB_bool, ifB_true, ifB_false, un_not, bin_lss, bin_leq, bin_gtr, bin_geq, bin_eql, bin_neq, bin_add, bin_sub, bin_mul, ok_int, ok_bool, ok_slice, ok_str, ok_ptr, ok_map, ok_func, ok_iface, ok_nil, List.all_cons, List.all_nil, Bool.and_true, Bool.true_and, seg, setSeg, List.drop_succ_cons, List.drop_zero, List.take_succ_cons, List.take_zero, List.cons_append, List.nil_append, List.append_nil, List.length_cons, List.length_nil, List.drop_nil, List.size_toArray, Nat.reduceAdd, Nat.reduceLeDiff, Nat.reduceBEq, Nat.zero_add, Nat.le_refl, decide_true, mkV, List.headD_cons, cellsV, w_fldV, w_ext, w_fldP, List.getElem?_toArray, List.getElem?_cons_zero, List.getElem?_cons_succ, beq_self_eq_true, selV, hok1]
  have gg := g6.trans g7
  have hu1 := hu1.g g7
  refine c_ref16_Find hwd (hv.g gg) (by omega) fun u2 H8 hu2 g8 => ?_
  have hok2 := hu2.okcv
  try simp only [sv_cons, sv_cons1, sc_cons, sc_cons1, asB_bool, ifB_true, ifB_false, un_not, bin_lss, bin_leq, bin_gtr, bin_geq, bin_eql, bin_neq, bin_add, bin_sub, bin_mul, ok_int, ok_bool, ok_slice, ok_str, ok_ptr, ok_map, ok_func, ok_iface, ok_nil, List.all_cons, List.all_nil, Bool.and_true, Bool.true_and, seg, setSeg, List.drop_succ_cons, List.drop_zero, List.take_succ_cons, List.take_zero, List.cons_append, List.nil_append, List.append_nil, List.length_cons, List.length_nil, List.drop_nil, List.size_toArray, Nat.reduceAdd, Nat.reduceLeDiff, Nat.reduceBEq, Nat.zero_add, Nat.le_refl, decide_true, mkV, List.headD_cons, cellsV, w_fldV, w_ext, w_fldP, List.getElem?_toArray, List.getElem?_cons_zero, List.getElem?_cons_succ, beq_self_eq_true, selV]
  refine newT_of fun H9 g9 _ => ?_
  try simp only [sv_cons, sv_cons1, sc_cons, sc_cons1, asB_bool, ifB_true, ifB_false, un_not, bin_lss, bin_leq, bin_gtr, bin_geq, bin_eql, bin_neq, bin_add, bin_sub, bin_mul, ok_int, ok_bool, ok_slice, ok_str, ok_ptr, ok_map, ok_func, ok_iface, ok_nil, List.all_cons, List.all_nil, Bool.and_true, Bool.true_and, seg, setSeg, List.drop_succ_cons, List.drop_zero, List.take_succ_cons, List.take_zero, List.cons_append, List.nil_append, List.append_nil, List.length_cons, List.length_nil, List.drop_nil, List.size_toArray, Nat.reduceAdd, Nat.reduceLeDiff, Nat.reduceBEq, Nat.zero_add, Nat.le_refl, decide_true, mkV, List.headD_cons, cellsV, w_fldV, w_ext, w_fldP, List.getElem?_toArray, List.getElem?_cons_zero, List.getElem?_cons_succ, beq_self_eq_true, selV, hok2]
  have gg := (gg.trans g8).trans g9
  have hu1 := hu1.g (g8.trans g9)
  have hu2 := hu2.g g9
  refine callV_new (c_stash_Put hwd (ho.g gg) (hb.g gg) (by omega) fun p H10 hp g10 wp => ?_)
  have hp := sl_in hp
  have wp := wbl_in wp
  have gg1 := gg.trans g10
  try simp only [sv_cons, sv_cons1, sc_cons, sc_cons1, asB_bool, ifB_true, ifB_false, un_not, bin_lss, bin_leq, bin_gtr, bin_geq, bin_eql, bin_neq, bin_add, bin_sub, bin_mul, ok_int, ok_bool, ok_slice, ok_str, ok_ptr, ok_map, ok_func, ok_iface, ok_nil, List.all_cons, List.all_nil, Bool.and_true, Bool.true_and, seg, setSeg, List.drop_succ_cons, List.drop_zero, List.take_succ_cons, List.take_zero, List.cons_append, List.nil_append, List.append_nil, List.length_cons, List.length_nil, List.drop_nil, List.size_toArray, Nat.reduceAdd, Nat.reduceLeDiff, Nat.reduceBEq, Nat.zero_add, Nat.le_refl, decide_true, mkV, List.headD_cons, cellsV, w_fldV, w_ext, w_fldP, List.getElem?_toArray, List.getElem?_cons_zero, List.getElem?_cons_succ, beq_self_eq_true, selV]
  refine c_ref16_Put hwd (hv.g gg1) (hb.g gg1) (by omega) fun q H11 hq g11 => ?_
  have gg2 := gg1.trans g11
  try simp only [sv_cons, sv_cons1, sc_cons, sc_cons1, asB_bool, ifB_true, ifB_false, un_not, bin_lss, bin_leq, bin_gtr, bin_geq, bin_eql, bin_neq, bin_add, bin_sub, bin_mul, ok_int, ok_bool, ok_slice, ok_str, ok_ptr, ok_map, ok_func, ok_iface, ok_nil, List.all_cons, List.all_nil, Bool.and_true, Bool.true_and, seg, setSeg, List.drop_succ_cons, List.drop_zero, List.take_succ_cons, List.take_zero, List.cons_append, List.nil_append, List.append_nil, List.length_cons, List.length_nil, List.drop_nil, List.size_toArray, Nat.reduceAdd, Nat.reduceLeDiff, Nat.reduceBEq, Nat.zero_add, Nat.le_refl, decide_true, mkV, List.headD_cons, cellsV, w_fldV, w_ext, w_fldP, List.getElem?_toArray, List.getElem?_cons_zero, List.getElem?_cons_succ, beq_self_eq_true, selV]
  refine callV_new (c_stash_Drop hwd (ho.g gg2) (by omega) fun c1 H12 hc1 g12 wc => ?_)
  have hc1 := sl_in hc1
  have wc := wbl_in wc
  have gg3 := gg2.trans g12
  try simp only [sv_cons, sv_cons1, sc_cons, sc_cons1, asB_bool, ifB_true, ifB_false, un_not, bin_lss, bin_leq, bin_gtr, bin_geq, bin_eql, bin_neq, bin_add, bin_sub, bin_mul, ok_int, ok_bool, ok_slice, ok_str, ok_ptr, ok_map, ok_func, ok_iface, ok_nil, List.all_cons, List.all_nil, Bool.and_true, Bool.true_and, seg, setSeg, List.drop_succ_cons, List.drop_zero, List.take_succ_cons, List.take_zero, List.cons_append, List.nil_append, List.append_nil, List.length_cons, List.length_nil, List.drop_nil, List.size_toArray, Nat.reduceAdd, Nat.reduceLeDiff, Nat.reduceBEq, Nat.zero_add, Nat.le_refl, decide_true, mkV, List.headD_cons, cellsV, w_fldV, w_ext, w_fldP, List.getElem?_toArray, List.getElem?_cons_zero, List.getElem?_cons_succ, beq_self_eq_true, selV]
  refine c_ref16_Drop hwd (hv.g gg3) (by omega) fun d H13 hd g13 => ?_
  have gg4 := gg3.trans g13
  try simp only [sv_cons, sv_cons1, sc_cons, sc_cons1, asB_bool, ifB_true, ifB_false, un_not, bin_lss, bin_leq, bin_gtr, bin_geq, bin_eql, bin_neq, bin_add, bin_sub, bin_mul, ok_int, ok_bool, ok_slice, ok_str, ok_ptr, ok_map, ok_func, ok_iface, ok_nil, List.all_cons, List.all_nil, Bool.and_true, Bool.true_and, seg, setSeg, List.drop_succ_cons, List.drop_zero, List.take_succ_cons, List.take_zero, List.cons_append, List.nil_append, List.append_nil, List.length_cons, List.length_nil, List.drop_nil, List.size_toArray, Nat.reduceAdd, Nat.reduceLeDiff, Nat.reduceBEq, Nat.zero_add, Nat.le_refl, decide_true, mkV, List.headD_cons, cellsV, w_fldV, w_ext, w_fldP, List.getElem?_toArray, List.getElem?_cons_zero, List.getElem?_cons_succ, beq_self_eq_true, selV]
  refine callV_new (c_stash_Add hwd (ho.g gg4) (hmi.g gg4) (by omega) (by omega) fun m H14 hm g14 wm => ?_)
  have hm := sl_in hm
  have wm := wbl_in wm
  have gg5 := gg4.trans g14
  try simp only [sv_cons, sv_cons1, sc_cons, sc_cons1, asB_bool, ifB_true, ifB_false, un_not, bin_lss, bin_leq, bin_gtr, bin_geq, bin_eql, bin_neq, bin_add, bin_sub, bin_mul, ok_int, ok_bool, ok_slice, ok_str, ok_ptr, ok_map, ok_func, ok_iface, ok_nil, List.all_cons, List.all_nil, Bool.and_true, Bool.true_and, seg, setSeg, List.drop_succ_cons, List.drop_zero, List.take_succ_cons, List.take_zero, List.cons_append, List.nil_append, List.append_nil, List.length_cons, List.length_nil, List.drop_nil, List.size_toArray, Nat.reduceAdd, Nat.reduceLeDiff, Nat.reduceBEq, Nat.zero_add, Nat.le_refl, decide_true, mkV, List.headD_cons, cellsV, w_fldV, w_ext, w_fldP, List.getElem?_toArray, List.getElem?_cons_zero, List.getElem?_cons_succ, beq_self_eq_true, selV]
  refine c_ref16_Add hwd (hv.g gg5) (hz.g gg5) (by omega) (by omega) fun nn H15 hn g15 => ?_
  have gg6 := gg5.trans g15
  try simp only [sv_cons, sv_cons1, sc_cons, sc_cons1, asB_bool, ifB_true, ifB_false, un_not, bin_lss, bin_leq, bin_gtr, bin_geq, bin_eql, bin_neq, bin_add, bin_sub, bin_mul, ok_int, ok_bool, ok_slice, ok_str, ok_ptr, ok_map, ok_func, ok_iface, ok_nil, List.all_cons, List.all_nil, Bool.and_true, Bool.true_and, seg, setSeg, List.drop_succ_cons, List.drop_zero, List.take_succ_cons, List.take_zero, List.cons_append, List.nil_append, List.append_nil, List.length_cons, List.length_nil, List.drop_nil, List.size_toArray, Nat.reduceAdd, Nat.reduceLeDiff, Nat.reduceBEq, Nat.zero_add, Nat.le_refl, decide_true, mkV, List.headD_cons, cellsV, w_fldV, w_ext, w_fldP, List.getElem?_toArray, List.getElem?_cons_zero, List.getElem?_cons_succ, beq_self_eq_true, selV]
  refine callV_new (c_stash_Twin (ho.g gg6) (by omega) hf fun t H16 ht wt => ?_)
  have g16 := ht.g
  have ht := sl_in ht.sl
  have wt := wbl_in wt
  have gg7 := gg6.trans g16
  -- they are the same
  have k1 := ((g10.trans g11).trans ((g12.trans g13).trans (g14.trans g15))).trans g16
  have k2 := (g11.trans ((g12.trans g13).trans (g14.trans g15))).trans g16
  have k3 := ((g12.trans g13).trans (g14.trans g15)).trans g16
  have k4 := (g13.trans (g14.trans g15)).trans g16
  have k5 := (g14.trans g15).trans g16
  have k6 := g15.trans g16
  refine join_of (fun st H' => G H16 H' ∧ st = [[.bool true]]) (fun K hK => ?_) ?_
  · refine c_ref09_Same (a := findV l s n) (b := findV l s n) (hu1.g k1) (hu2.g k1) fun H17 g17 => ?_
    try simp only [sv_cons, sv_cons1, sc_cons, sc_cons1, asB_bool, ifB_true, ifB_false, un_not, bin_lss, bin_leq, bin_gtr, bin_geq, bin_eql, bin_neq, bin_add, bin_sub, bin_mul, ok_int, ok_bool, ok_slice, ok_str, ok_ptr, ok_map, ok_func, ok_iface, ok_nil, List.all_cons, List.all_nil, Bool.and_true, Bool.true_and, seg, setSeg, List.drop_succ_cons, List.drop_zero, List.take_succ_cons, List.take_zero, List.cons_append, List.nil_append, List.append_nil, List.length_cons, List.length_nil, List.drop_nil, List.size_toArray, Nat.reduceAdd, Nat.reduceLeDiff, Nat.reduceBEq, Nat.zero_add, Nat.le_refl, decide_true, mkV, List.headD_cons, cellsV, w_fldV, w_ext, w_fldP, List.getElem?_toArray, List.getElem?_cons_zero, List.getElem?_cons_succ, beq_self_eq_true, selV, decide_true]
    rw [bin_boolq, beq_self_eq_true]
    try simp only [sv_cons, sv_cons1, sc_cons, sc_cons1, asB_bool, ifB_true, ifB_false, un_not, bin_lss, bin_leq, bin_gtr, bin_geq, bin_eql, bin_neq, bin_add, bin_sub, bin_mul, ok_int, ok_bool, ok_slice, ok_str, ok_ptr, ok_map, ok_func, ok_iface, ok_nil, List.all_cons, List.all_nil, Bool.and_true, Bool.true_and, seg, setSeg, List.drop_succ_cons, List.drop_zero, List.take_succ_cons, List.take_zero, List.cons_append, List.nil_append, List.append_nil, List.length_cons, List.length_nil, List.drop_nil, List.size_toArray, Nat.reduceAdd, Nat.reduceLeDiff, Nat.reduceBEq, Nat.zero_add, Nat.le_refl, decide_true, mkV, List.headD_cons, cellsV, w_fldV, w_ext, w_fldP, List.getElem?_toArray, List.getElem?_cons_zero, List.getElem?_cons_succ, beq_self_eq_true, selV]
    have hpl := (putV_small (l := l) (s := s) (b := b)).1
    refine c_ref09_SameAll (hp.g (k2.trans g17)) (hq.g (k3.trans g17)) (by omega) fun H18 g18 => ?_
    try simp only [sv_cons, sv_cons1, sc_cons, sc_cons1, asB_bool, ifB_true, ifB_false, un_not, bin_lss, bin_leq, bin_gtr, bin_geq, bin_eql, bin_neq, bin_add, bin_sub, bin_mul, ok_int, ok_bool, ok_slice, ok_str, ok_ptr, ok_map, ok_func, ok_iface, ok_nil, List.all_cons, List.all_nil, Bool.and_true, Bool.true_and, seg, setSeg, List.drop_succ_cons, List.drop_zero, List.take_succ_cons, List.take_zero, List.cons_append, List.nil_append, List.append_nil, List.length_cons, List.length_nil, List.drop_nil, List.size_toArray, Nat.reduceAdd, Nat.reduceLeDiff, Nat.reduceBEq, Nat.zero_add, Nat.le_refl, decide_true, mkV, List.headD_cons, cellsV, w_fldV, w_ext, w_fldP, List.getElem?_toArray, List.getElem?_cons_zero, List.getElem?_cons_succ, beq_self_eq_true, selV, decide_true]
    have hdl := (dropV_small (l := l) (s := s) (n := n)).1
    refine c_ref09_SameAll (hc1.g (k4.trans (g17.trans g18))) (hd.g (k5.trans (g17.trans g18))) (by omega) fun H19 g19 => ?_
    try simp only [sv_cons, sv_cons1, sc_cons, sc_cons1, asB_bool, ifB_true, ifB_false, un_not, bin_lss, bin_leq, bin_gtr, bin_geq, bin_eql, bin_neq, bin_add, bin_sub, bin_mul, ok_int, ok_bool, ok_slice, ok_str, ok_ptr, ok_map, ok_func, ok_iface, ok_nil, List.all_cons, List.all_nil, Bool.and_true, Bool.true_and, seg, setSeg, List.drop_succ_cons, List.drop_zero, List.take_succ_cons, List.take_zero, List.cons_append, List.nil_append, List.append_nil, List.length_cons, List.length_nil, List.drop_nil, List.size_toArray, Nat.reduceAdd, Nat.reduceLeDiff, Nat.reduceBEq, Nat.zero_add, Nat.le_refl, decide_true, mkV, List.headD_cons, cellsV, w_fldV, w_ext, w_fldP, List.getElem?_toArray, List.getElem?_cons_zero, List.getElem?_cons_succ, beq_self_eq_true, selV, decide_true]
    exact hK _ _ ⟨(g17.trans g18).trans g19, rfl⟩
  rintro st H17 ⟨g17, rfl⟩
  refine join_of (fun st H' => G H16 H' ∧ st = [[.bool true]]) (fun K hK => ?_) ?_
  · have hal := (addV_small (l := l) (s := s) (more := more)).1
    refine c_ref09_SameAll (hm.g (k6.trans g17)) (hn.g (g16.trans g17)) (by omega) fun H18 g18 => ?_
    try simp only [sv_cons, sv_cons1, sc_cons, sc_cons1, asB_bool, ifB_true, ifB_false, un_not, bin_lss, bin_leq, bin_gtr, bin_geq, bin_eql, bin_neq, bin_add, bin_sub, bin_mul, ok_int, ok_bool, ok_slice, ok_str, ok_ptr, ok_map, ok_func, ok_iface, ok_nil, List.all_cons, List.all_nil, Bool.and_true, Bool.true_and, seg, setSeg, List.drop_succ_cons, List.drop_zero, List.take_succ_cons, List.take_zero, List.cons_append, List.nil_append, List.append_nil, List.length_cons, List.length_nil, List.drop_nil, List.size_toArray, Nat.reduceAdd, Nat.reduceLeDiff, Nat.reduceBEq, Nat.zero_add, Nat.le_refl, decide_true, mkV, List.headD_cons, cellsV, w_fldV, w_ext, w_fldP, List.getElem?_toArray, List.getElem?_cons_zero, List.getElem?_cons_succ, beq_self_eq_true, selV, decide_true]
    have gx := (gg7.trans g17).trans g18
    refine c_stash_Check hwd (ho.g gx) (by omega) fun H19 g19 => c_ref16_Check hwd (hv.g (gx.trans g19)) (by omega) fun H20 g20 => ?_
    have gx := (gx.trans g19).trans g20
    try simp only [sv_cons, sv_cons1, sc_cons, sc_cons1, asB_bool, ifB_true, ifB_false, un_not, bin_lss, bin_leq, bin_gtr, bin_geq, bin_eql, bin_neq, bin_add, bin_sub, bin_mul, ok_int, ok_bool, ok_slice, ok_str, ok_ptr, ok_map, ok_func, ok_iface, ok_nil, List.all_cons, List.all_nil, Bool.and_true, Bool.true_and, seg, setSeg, List.drop_succ_cons, List.drop_zero, List.take_succ_cons, List.take_zero, List.cons_append, List.nil_append, List.append_nil, List.length_cons, List.length_nil, List.drop_nil, List.size_toArray, Nat.reduceAdd, Nat.reduceLeDiff, Nat.reduceBEq, Nat.zero_add, Nat.le_refl, decide_true, mkV, List.headD_cons, cellsV, w_fldV, w_ext, w_fldP, List.getElem?_toArray, List.getElem?_cons_zero, List.getElem?_cons_succ, beq_self_eq_true, selV, decide_true]
    refine c_stash_Same (ho.g gx) (hz.g gx) (by omega) (fun x hx => by have := hf x hx; unfold fits at this; omega) fun H21 g21 => c_ref09_SameAll (hv.g (gx.trans g21)) (hz.g (gx.trans g21)) (by omega) fun H22 g22 => ?_
    have gx := (gx.trans g21).trans g22
    rw [bin_boolq, beq_self_eq_true]
    try simp only [sv_cons, sv_cons1, sc_cons, sc_cons1, asB_bool, ifB_true, ifB_false, un_not, bin_lss, bin_leq, bin_gtr, bin_geq, bin_eql, bin_neq, bin_add, bin_sub, bin_mul, ok_int, ok_bool, ok_slice, ok_str, ok_ptr, ok_map, ok_func, ok_iface, ok_nil, List.all_cons, List.all_nil, Bool.and_true, Bool.true_and, seg, setSeg, List.drop_succ_cons, List.drop_zero, List.take_succ_cons, List.take_zero, List.cons_append, List.nil_append, List.append_nil, List.length_cons, List.length_nil, List.drop_nil, List.size_toArray, Nat.reduceAdd, Nat.reduceLeDiff, Nat.reduceBEq, Nat.zero_add, Nat.le_refl, decide_true, mkV, List.headD_cons, cellsV, w_fldV, w_ext, w_fldP, List.getElem?_toArray, List.getElem?_cons_zero, List.getElem?_cons_succ, beq_self_eq_true, selV]
    refine c_stash_Same (ho.g gx) (hv.g gx) (by omega) (fun x hx => by have := hf x hx; unfold fits at this; omega) fun H23 g23 => ?_
    try simp only [sv_cons, sv_cons1, sc_cons, sc_cons1, asB_bool, ifB_true, ifB_false, un_not, bin_lss, bin_leq, bin_gtr, bin_geq, bin_eql, bin_neq, bin_add, bin_sub, bin_mul, ok_int, ok_bool, ok_slice, ok_str, ok_ptr, ok_map, ok_func, ok_iface, ok_nil, List.all_cons, List.all_nil, Bool.and_true, Bool.true_and, seg, setSeg, List.drop_succ_cons, List.drop_zero, List.take_succ_cons, List.take_zero, List.cons_append, List.nil_append, List.append_nil, List.length_cons, List.length_nil, List.drop_nil, List.size_toArray, Nat.reduceAdd, Nat.reduceLeDiff, Nat.reduceBEq, Nat.zero_add, Nat.le_refl, decide_true, mkV, List.headD_cons, cellsV, w_fldV, w_ext, w_fldP, List.getElem?_toArray, List.getElem?_cons_zero, List.getElem?_cons_succ, beq_self_eq_true, selV, decide_true]
    have gy := ((((g18.trans g19).trans g20).trans g21).trans g22).trans g23
    refine c_ref09_SameAll (ht.g (g17.trans gy)) (hv.g (gx.trans g23)) (by omega) fun H24 g24 => ?_
    rw [decide_eq_true rfl]
    exact hK _ _ ⟨(g17.trans gy).trans g24, rfl⟩
  rintro st H18 ⟨g18, rfl⟩
  -- what comes is written over
  have s10 := gg.size
  have s11 := g10.size
  have s12 := g11.size
  have s13 := g12.size
  have s14 := g13.size
  have s15 := g14.size
  have s16 := g15.size
  have s17 := g16.size
  have hpl := putV_small (l := l) (s := s) (b := b)
  have hdl := dropV_small (l := l) (s := s) (n := n)
  have hal := addV_small (l := l) (s := s) (more := more)
  refine c_law16_spoil (hp.g (k2.trans g18)) (wp.fr (k2.trans g18) fun y hy => ⟨hy.2, trivial⟩) (by omega) (fun x hx => by have := hpl.2 x hx; unfold fits; omega) fun H19 kd1 => ?_
  have f1 := kd1.fr
  refine c_law16_spoil ((hc1.g (k4.trans g18)).up f1 fun y hy _ => ⟨fun h => by omega, hy⟩) ((wc.fr (k4.trans g18) fun y hy => ⟨hy.2, trivial⟩).fr f1 fun y hy => ⟨by have := (k4.trans g18).size; omega, fun h => by omega⟩) (by omega) (fun x hx => by have := hdl.2 x hx; unfold fits; omega) fun H20 kd2 => ?_
  have f2 := kd2.fr
  have f12 : Fr (fun y => ¬ In H9 H10 y ∧ ¬ In H11 H12 y) H18 H20 := Fr.trans f1 f2 fun y _ hy => hy
  refine c_law16_spoil ((hm.g (k6.trans g18)).up f12 fun y hy _ => ⟨⟨fun h => by omega, fun h => by omega⟩, hy⟩) ((wm.fr (k6.trans g18) fun y hy => ⟨hy.2, trivial⟩).fr f12 fun y hy => ⟨by have := (k6.trans g18).size; omega, fun h => by omega, fun h => by omega⟩) (by omega) (fun x hx => by have := hal.2 x hx; unfold fits; omega) fun H21 kd3 => ?_
  have f3 := kd3.fr
  have f123 : Fr (fun y => (¬ In H9 H10 y ∧ ¬ In H11 H12 y) ∧ ¬ In H13 H14 y) H18 H21 := Fr.trans f12 f3 fun y _ hy => hy
  refine c_law16_spoil ((ht.g g18).up f123 fun y hy _ => ⟨⟨⟨fun h => by omega, fun h => by omega⟩, fun h => by omega⟩, hy⟩) ((wt.fr g18 fun y hy => ⟨hy.2, trivial⟩).fr f123 fun y hy => ⟨by have := g18.size; omega, ⟨fun h => by omega, fun h => by omega⟩, fun h => by omega⟩) (by omega) hf fun H22 kd4 => ?_
  have f4 := kd4.fr
  have ff : Fr (fun y => y < Hb.size) H18 H22 := Fr.trans f123 f4 fun y _ hy => ⟨⟨⟨fun h => by omega, fun h => by omega⟩, fun h => by omega⟩, fun h => by omega⟩
  have gall := gg7.trans g18
  have up : ∀ {v : Value} {s : List Blk}, Sl rBlk Hb (fun y => y < Hb.size) v s → Sl rBlk H22 (fun y => y < Hb.size) v s := fun h => (h.g gall).up ff fun y hy _ => ⟨hy, hy⟩
  have gend : G H H22 := (g.trans gall).then ff fun y hy => by have := g.size; omega
  refine join_of (fun st H' => G H22 H' ∧ st = [[.bool true]]) (fun K hK => ?_) fun st H' hh => by obtain ⟨gg, rfl⟩ := hh; exact hQ _ (gend.trans gg)
  try simp only [sv_cons, sv_cons1, sc_cons, sc_cons1, asB_bool, ifB_true, ifB_false, un_not, bin_lss, bin_leq, bin_gtr, bin_geq, bin_eql, bin_neq, bin_add, bin_sub, bin_mul, ok_int, ok_bool, ok_slice, ok_str, ok_ptr, ok_map, ok_func, ok_iface, ok_nil, List.all_cons, List.all_nil, Bool.and_true, Bool.true_and, seg, setSeg, List.drop_succ_cons, List.drop_zero, List.take_succ_cons, List.take_zero, List.cons_append, List.nil_append, List.append_nil, List.length_cons, List.length_nil, List.drop_nil, List.size_toArray, Nat.reduceAdd, Nat.reduceLeDiff, Nat.reduceBEq, Nat.zero_add, Nat.le_refl, decide_true, mkV, List.headD_cons, cellsV, w_fldV, w_ext, w_fldP, List.getElem?_toArray, List.getElem?_cons_zero, List.getElem?_cons_succ, beq_self_eq_true, selV]
  refine c_ref09_SameAll (up ho) (up hv) (by omega) fun H23 g23 => ?_
  try simp only [sv_cons, sv_cons1, sc_cons, sc_cons1, asB_bool, ifB_true, ifB_false, un_not, bin_lss, bin_leq, bin_gtr, bin_geq, bin_eql, bin_neq, bin_add, bin_sub, bin_mul, ok_int, ok_bool, ok_slice, ok_str, ok_ptr, ok_map, ok_func, ok_iface, ok_nil, List.all_cons, List.all_nil, Bool.and_true, Bool.true_and, seg, setSeg, List.drop_succ_cons, List.drop_zero, List.take_succ_cons, List.take_zero, List.cons_append, List.nil_append, List.append_nil, List.length_cons, List.length_nil, List.drop_nil, List.size_toArray, Nat.reduceAdd, Nat.reduceLeDiff, Nat.reduceBEq, Nat.zero_add, Nat.le_refl, decide_true, mkV, List.headD_cons, cellsV, w_fldV, w_ext, w_fldP, List.getElem?_toArray, List.getElem?_cons_zero, List.getElem?_cons_succ, beq_self_eq_true, selV, decide_true]
  refine c_ref09_SameAll ((up hmi).g g23) ((up hz).g g23) (by omega) fun H24 g24 => ?_
  rw [decide_eq_true rfl]
  exact hK _ _ ⟨g23.trans g24, rfl⟩

end Go.Proofs.Ytccdoecccaocjaa
