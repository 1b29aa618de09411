/- The statement 'DevDoes': its function says true. -/
import Derived.Test.YtikebhnnmnlgaaaConLaw12b
namespace Go.Proofs.Ytikebhnnmnlgaaa
open Go.Ab Go.Md
set_option linter.unusedVariables false
set_option linter.unusedSimpArgs false
set_option maxRecDepth 20000

variable {H : Heap} {Q : Value → Heap → Prop} {A B C : Nat → Prop}

theorem c_law12_great {a : Value} {xs : List By} (ha : Sl rBy H A a xs) (hQ : ∀ b, (b = false → xs.length ≤ 20 ∧ ∀ x ∈ xs, x.length ≤ 1000) → Q (.bool b) H) : callV Try.prog (fnV fn_law12_great) [a] H Q := by
  apply S_law12_great_of
  unfold S_law12_great
  refine loop_up 20 (fun i s H' => H' = H ∧ s = [[.int .i64 (i : Int)]] ∧ ∀ x ∈ xs.take i, x.length ≤ 1000) ⟨rfl, rfl, by simp⟩ ?_
  rintro i s H' K hi ⟨rfl, rfl, hin⟩ hK
  refine join_of (fun s H'' => H'' = H' ∧ s = [[.bool (decide (i < xs.length ∧ i < 20))]]) (fun K' hK' => ?_) ?_
  · refine ha.len ?_
    try simp only [sv_cons, sv_cons1, sc_cons, sc_cons1, asB_bool, ifB_true, ifB_false, un_not, bin_lss, bin_leq, bin_gtr, bin_geq, bin_eql, bin_neq, bin_add, bin_sub, bin_mul, ok_int, ok_bool, ok_slice, ok_str, ok_ptr, ok_map, ok_func, ok_iface, ok_nil, List.all_cons, List.all_nil, Bool.and_true, Bool.true_and, seg, setSeg, List.drop_succ_cons, List.drop_zero, List.take_succ_cons, List.take_zero, List.cons_append, List.nil_append, List.append_nil, List.length_cons, List.length_nil, List.drop_nil, List.size_toArray, Nat.reduceAdd, Nat.reduceLeDiff, Nat.reduceBEq, Nat.zero_add, Nat.le_refl, decide_true, mkV, List.headD_cons, cellsV, w_fldV, w_ext, w_fldP, List.getElem?_toArray, List.getElem?_cons_zero, List.getElem?_cons_succ, beq_self_eq_true, selV]
    refine ifD_of (fun h1 => hK' _ _ ⟨rfl, jb_d (by omega)⟩) (fun h1 => hK' _ _ ⟨rfl, jb_f (by omega)⟩)
  rintro s H'' ⟨rfl, rfl⟩
  try simp only [sv_cons, sv_cons1, sc_cons, sc_cons1, asB_bool, ifB_true, ifB_false, un_not, bin_lss, bin_leq, bin_gtr, bin_geq, bin_eql, bin_neq, bin_add, bin_sub, bin_mul, ok_int, ok_bool, ok_slice, ok_str, ok_ptr, ok_map, ok_func, ok_iface, ok_nil, List.all_cons, List.all_nil, Bool.and_true, Bool.true_and, seg, setSeg, List.drop_succ_cons, List.drop_zero, List.take_succ_cons, List.take_zero, List.cons_append, List.nil_append, List.append_nil, List.length_cons, List.length_nil, List.drop_nil, List.size_toArray, Nat.reduceAdd, Nat.reduceLeDiff, Nat.reduceBEq, Nat.zero_add, Nat.le_refl, decide_true, mkV, List.headD_cons, cellsV, w_fldV, w_ext, w_fldP, List.getElem?_toArray, List.getElem?_cons_zero, List.getElem?_cons_succ, beq_self_eq_true, selV]
  refine ifD_of (fun h1 => ?_) (fun h1 => ?_)
  · refine ha.getS (List.getElem?_eq_getElem h1.1) fun u hu => hu.len ?_
    try simp only [sv_cons, sv_cons1, sc_cons, sc_cons1, asB_bool, ifB_true, ifB_false, un_not, bin_lss, bin_leq, bin_gtr, bin_geq, bin_eql, bin_neq, bin_add, bin_sub, bin_mul, ok_int, ok_bool, ok_slice, ok_str, ok_ptr, ok_map, ok_func, ok_iface, ok_nil, List.all_cons, List.all_nil, Bool.and_true, Bool.true_and, seg, setSeg, List.drop_succ_cons, List.drop_zero, List.take_succ_cons, List.take_zero, List.cons_append, List.nil_append, List.append_nil, List.length_cons, List.length_nil, List.drop_nil, List.size_toArray, Nat.reduceAdd, Nat.reduceLeDiff, Nat.reduceBEq, Nat.zero_add, Nat.le_refl, decide_true, mkV, List.headD_cons, cellsV, w_fldV, w_ext, w_fldP, List.getElem?_toArray, List.getElem?_cons_zero, List.getElem?_cons_succ, beq_self_eq_true, selV]
    refine ifD_of (fun h2 => hQ _ fun h => by cases h) (fun h2 => ?_)
    rw [wrap_i64 (by unfold i64; omega)]
    refine hK _ _ h1.2 ⟨rfl, by simp, fun x hx => ?_⟩
    rw [List.take_succ_eq_append_getElem h1.1, List.mem_append, List.mem_singleton] at hx
    rcases hx with h | rfl
    · exact hin x h
    · omega
  · refine ha.len ?_
    try simp only [sv_cons, sv_cons1, sc_cons, sc_cons1, asB_bool, ifB_true, ifB_false, un_not, bin_lss, bin_leq, bin_gtr, bin_geq, bin_eql, bin_neq, bin_add, bin_sub, bin_mul, ok_int, ok_bool, ok_slice, ok_str, ok_ptr, ok_map, ok_func, ok_iface, ok_nil, List.all_cons, List.all_nil, Bool.and_true, Bool.true_and, seg, setSeg, List.drop_succ_cons, List.drop_zero, List.take_succ_cons, List.take_zero, List.cons_append, List.nil_append, List.append_nil, List.length_cons, List.length_nil, List.drop_nil, List.size_toArray, Nat.reduceAdd, Nat.reduceLeDiff, Nat.reduceBEq, Nat.zero_add, Nat.le_refl, decide_true, mkV, List.headD_cons, cellsV, w_fldV, w_ext, w_fldP, List.getElem?_toArray, List.getElem?_cons_zero, List.getElem?_cons_succ, beq_self_eq_true, selV]
    refine hQ _ fun hf => ?_
    have hf := of_decide_eq_false hf
    refine ⟨by omega, fun x hx => hin x ?_⟩
    rw [List.take_of_length_le (by omega)]; exact hx

theorem Cl.sl {H' : Heap} {v : Value} {b : Nat} {vs : List Value} {F : Nat → Prop} {xs : List By} (h : Cl H H' v b vs F xs) : Sl rBy H' (fun y => H.size ≤ y) v xs := by
  have := (h.own.slF (A' := fun y => H.size ≤ y) fun k hk => by have := h.fresh; omega).join (B := F) (h.leaves.imp fun u x hl => hl.1)
  exact this.mono fun y hy _ => hy.elim id fun hF => (h.freshF y hF).1

/-- Bytes that were read are written over. -/
theorem spoil_loop {O F : Nat → Prop} {v : Value} {ws : List Value} {xs : List By} {k : Heap → Prop} (hv : Sl rV H O v ws) (hl : All2 (Lf H F) ws xs) (hO : ∀ y, O y → ¬ F y) (hn : xs.length ≤ 1000000) (hb : ∀ x ∈ xs, x.length ≤ 1000000) (hk : ∀ H', Wr F H H' → k H') :
    LoopPT (fun s39 H K39 =>
      lenSl v H fun t112 =>
      binV (.int .i64) .lss (sv s39 0) t112 fun t113 =>
      asB t113 fun b113 =>
      ifB b113 (
      LoopPT (fun s48 H K48 =>
      idxS 1 v (sv s39 0) fun t119 =>
      loadP false 1 t119 H fun t120 =>
      lenSl t120 H fun t121 =>
      binV (.int .i64) .lss (sv s48 0) t121 fun t122 =>
      asB t122 fun b122 =>
      ifB b122 (
      idxS 1 v (sv s39 0) fun t127 =>
      loadP false 1 t127 H fun t128 =>
      idxS 1 v (sv s39 0) fun t132 =>
      loadP false 1 t132 H fun t133 =>
      idxS 1 t133 (sv s48 0) fun t135 =>
      loadP false 1 t135 H fun t136 =>
      binV (.int .u8) .add t136 (.int .u8 1) fun t137 =>
      idxS 1 t128 (sv s48 0) fun t138 =>
      storeP false 1 t138 t137 H fun H =>
      binV (.int .i64) .add (sv s48 0) (.int .i64 1) fun t124 =>
      K48 [[t124]] H) (
      binV (.int .i64) .add (sv s39 0) (.int .i64 1) fun t115 =>
      K39 [[t115]] H)) [[(.int .i64 0)]] H) (k H)) [[(.int .i64 0)]] H := by
  have out : ∀ {H' : Heap}, Wr F H H' → Sl rV H' O v ws := fun hw => hv.up hw.fr fun y hy _ => ⟨hO y hy, hy⟩
  have len := hl.1
  refine loop_up xs.length (fun i s H' => Wr F H H' ∧ s = [[.int .i64 (i : Int)]]) ⟨Wr.refl _ _, rfl⟩ ?_
  rintro i s H2 K hi ⟨hw, rfl⟩ hK
  refine (out hw).len ?_
  try simp only [sv_cons, sv_cons1, sc_cons, sc_cons1, asB_bool, ifB_true, ifB_false, un_not, bin_lss, bin_leq, bin_gtr, bin_geq, bin_eql, bin_neq, bin_add, bin_sub, bin_mul, ok_int, ok_bool, ok_slice, ok_str, ok_ptr, ok_map, ok_func, ok_iface, ok_nil, List.all_cons, List.all_nil, Bool.and_true, Bool.true_and, seg, setSeg, List.drop_succ_cons, List.drop_zero, List.take_succ_cons, List.take_zero, List.cons_append, List.nil_append, List.append_nil, List.length_cons, List.length_nil, List.drop_nil, List.size_toArray, Nat.reduceAdd, Nat.reduceLeDiff, Nat.reduceBEq, Nat.zero_add, Nat.le_refl, decide_true, mkV, List.headD_cons, cellsV, w_fldV, w_ext, w_fldP, List.getElem?_toArray, List.getElem?_cons_zero, List.getElem?_cons_succ, beq_self_eq_true, selV]
  refine ifD_of (fun c1 => ?_) (fun c1 => hk _ hw)
  have hlt : i < xs.length := by omega
  obtain ⟨u, hu, hlf⟩ := hl.get (List.getElem?_eq_getElem hlt)
  have hbl := hb _ (List.getElem_mem hlt)
  generalize xs[i] = bs at *
  refine loop_up bs.length (fun n s H' => Wr F H H' ∧ s = [[.int .i64 (n : Int)]]) ⟨hw, rfl⟩ ?_
  rintro n s H4 K3 hn ⟨hw, rfl⟩ hK3
  have hwb := hlf.2.wr hw
  refine (out hw).getV hu (hwb.len ?_)
  try simp only [sv_cons, sv_cons1, sc_cons, sc_cons1, asB_bool, ifB_true, ifB_false, un_not, bin_lss, bin_leq, bin_gtr, bin_geq, bin_eql, bin_neq, bin_add, bin_sub, bin_mul, ok_int, ok_bool, ok_slice, ok_str, ok_ptr, ok_map, ok_func, ok_iface, ok_nil, List.all_cons, List.all_nil, Bool.and_true, Bool.true_and, seg, setSeg, List.drop_succ_cons, List.drop_zero, List.take_succ_cons, List.take_zero, List.cons_append, List.nil_append, List.append_nil, List.length_cons, List.length_nil, List.drop_nil, List.size_toArray, Nat.reduceAdd, Nat.reduceLeDiff, Nat.reduceBEq, Nat.zero_add, Nat.le_refl, decide_true, mkV, List.headD_cons, cellsV, w_fldV, w_ext, w_fldP, List.getElem?_toArray, List.getElem?_cons_zero, List.getElem?_cons_succ, beq_self_eq_true, selV]
  refine ifD_of (fun c3 => ?_) (fun c3 => ?_)
  · refine (out hw).getV hu ((out hw).getV hu (hwb.get (by omega) fun z => ?_))
    try simp only [sv_cons, sv_cons1, sc_cons, sc_cons1, asB_bool, ifB_true, ifB_false, un_not, bin_lss, bin_leq, bin_gtr, bin_geq, bin_eql, bin_neq, bin_add, bin_sub, bin_mul, ok_int, ok_bool, ok_slice, ok_str, ok_ptr, ok_map, ok_func, ok_iface, ok_nil, List.all_cons, List.all_nil, Bool.and_true, Bool.true_and, seg, setSeg, List.drop_succ_cons, List.drop_zero, List.take_succ_cons, List.take_zero, List.cons_append, List.nil_append, List.append_nil, List.length_cons, List.length_nil, List.drop_nil, List.size_toArray, Nat.reduceAdd, Nat.reduceLeDiff, Nat.reduceBEq, Nat.zero_add, Nat.le_refl, decide_true, mkV, List.headD_cons, cellsV, w_fldV, w_ext, w_fldP, List.getElem?_toArray, List.getElem?_cons_zero, List.getElem?_cons_succ, beq_self_eq_true, selV]
    refine hwb.put (by omega) fun H5 hw5 => ?_
    try simp only [sv_cons, sv_cons1, sc_cons, sc_cons1, asB_bool, ifB_true, ifB_false, un_not, bin_lss, bin_leq, bin_gtr, bin_geq, bin_eql, bin_neq, bin_add, bin_sub, bin_mul, ok_int, ok_bool, ok_slice, ok_str, ok_ptr, ok_map, ok_func, ok_iface, ok_nil, List.all_cons, List.all_nil, Bool.and_true, Bool.true_and, seg, setSeg, List.drop_succ_cons, List.drop_zero, List.take_succ_cons, List.take_zero, List.cons_append, List.nil_append, List.append_nil, List.length_cons, List.length_nil, List.drop_nil, List.size_toArray, Nat.reduceAdd, Nat.reduceLeDiff, Nat.reduceBEq, Nat.zero_add, Nat.le_refl, decide_true, mkV, List.headD_cons, cellsV, w_fldV, w_ext, w_fldP, List.getElem?_toArray, List.getElem?_cons_zero, List.getElem?_cons_succ, beq_self_eq_true, selV]
    rw [wrap_i64 (by unfold i64; omega)]
    exact hK3 _ _ (by omega) ⟨hw.trans hw5, by simp⟩
  · rw [wrap_i64 (by unfold i64; omega)]
    exact hK _ _ (by omega) ⟨hw, by simp⟩

theorem mid_reads {c : Cfg} {d : Dv} {level : Int} {bs : List Int} (hd : Mid d) : ∀ x ∈ (if askE c d level bs = 0 then bs.map (bk d level) else []), x.length ≤ 1000000 := by
  intro x hx
  split at hx
  · obtain ⟨b, _, rfl⟩ := List.mem_map.1 hx; exact mid_bk hd
  · cases hx
theorem mid_wr {c : Cfg} {d : Dv} {level : Int} {bs : List Int} {all : List By} (hd : Mid d) (hx : ∀ x ∈ all, x.length ≤ 1000000) : Mid (if wrE c d level bs all = 0 then putAll d level bs all else []) := by
  split
  · exact mid_putAll hd hx
  · exact mid_nil
theorem seesW_le {level : Int} : ∀ {l : List Int} {all : List By}, (seesW level l all).length ≤ l.length
  | [], [] => by simp [seesW]
  | [], _ :: _ => by simp [seesW]
  | _ :: _, [] => by simp [seesW]
  | _ :: l, _ :: all => by simp [seesW]; exact seesW_le

theorem c_DevDoes {c : Cfg} {a l w : Value} {d : Dv} {level : Int} {bs : List Int} {all : List By} (ha : Sl rBys H A a d) (hb : Sl (rI .i64) H B l bs) (hw : Sl rBy H C w all) (hQ : ∀ H', G H H' → Q (.bool true) H') :
    callV Try.prog (fnV fn_law12_DevDoes) [.agg (cCfg c).toArray, .agg #[a], .int .i64 level, l, w] H Q := by
  apply S_law12_DevDoes_of
  unfold S_law12_DevDoes
  have ha := ha.old
  have hb := hb.old
  have hw := hw.old
  refine newT_of fun H1 g1 s1 => newT_of fun H2 g2 s2 => ?_
  have g := g1.trans g2
  refine join_of (fun s H' => G H H' ∧ ∃ b, s = [[.bool b]] ∧ (b = false → Small d ∧ bs.length ≤ 20 ∧ all.length ≤ 20 ∧ ∀ x ∈ all, x.length ≤ 1000)) (fun K hK => ?_) ?_
  · refine c_ref12_Great (ha.g g) fun b H4 hb1 g4 => ?_
    have g := g.trans g4
    cases b with
    | true => exact hK _ _ ⟨g, true, rfl, fun h => by cases h⟩
    | false =>
      refine (hb.g g).len ?_
      try simp only [sv_cons, sv_cons1, sc_cons, sc_cons1, asB_bool, ifB_true, ifB_false, un_not, bin_lss, bin_leq, bin_gtr, bin_geq, bin_eql, bin_neq, bin_add, bin_sub, bin_mul, ok_int, ok_bool, ok_slice, ok_str, ok_ptr, ok_map, ok_func, ok_iface, ok_nil, List.all_cons, List.all_nil, Bool.and_true, Bool.true_and, seg, setSeg, List.drop_succ_cons, List.drop_zero, List.take_succ_cons, List.take_zero, List.cons_append, List.nil_append, List.append_nil, List.length_cons, List.length_nil, List.drop_nil, List.size_toArray, Nat.reduceAdd, Nat.reduceLeDiff, Nat.reduceBEq, Nat.zero_add, Nat.le_refl, decide_true, mkV, List.headD_cons, cellsV, w_fldV, w_ext, w_fldP, List.getElem?_toArray, List.getElem?_cons_zero, List.getElem?_cons_succ, beq_self_eq_true, selV]
      refine ifD_of (fun h1 => hK _ _ ⟨g, true, rfl, fun h => by cases h⟩) (fun h1 => ?_)
      exact c_law12_great (hw.g g) fun b2 hb2 => hK _ _ ⟨g, b2, rfl, fun h => ⟨hb1 rfl, by omega, hb2 h⟩⟩
  rintro s H4 ⟨g, b', rfl, hsm⟩
  cases b' with
  | true => exact hQ _ g
  | false =>
    obtain ⟨hs1, hbl, hal, hax⟩ := hsm rfl
    have hm1 := hs1.mid
    have hax' : ∀ x ∈ all, x.length ≤ 1000000 := fun x hx => by have := hax x hx; omega
    refine c_ref12_Twin (ha.g g) hm1 fun own H5 hown => ?_
    obtain ⟨O0, F0, hdo, _⟩ := hown.out
    have hok := hown.okcv
    have g5 := g.trans hown.g
    refine c_ref12_TwinAll (hw.g g5) (by omega) hax' fun mine bm vm Fm H6 hmine => newT_of fun Ha ga sa => ?_
    have gA := (g5.trans hmine.g).trans ga
    have hown := ((hdo.sl (A := fun _ => True) fun _ _ => trivial).g (hmine.g.trans ga)).old
    have hmine := (hmine.sl.g ga).old
    try simp only [sv_cons, sv_cons1, sc_cons, sc_cons1, asB_bool, ifB_true, ifB_false, un_not, bin_lss, bin_leq, bin_gtr, bin_geq, bin_eql, bin_neq, bin_add, bin_sub, bin_mul, ok_int, ok_bool, ok_slice, ok_str, ok_ptr, ok_map, ok_func, ok_iface, ok_nil, List.all_cons, List.all_nil, Bool.and_true, Bool.true_and, seg, setSeg, List.drop_succ_cons, List.drop_zero, List.take_succ_cons, List.take_zero, List.cons_append, List.nil_append, List.append_nil, List.length_cons, List.length_nil, List.drop_nil, List.size_toArray, Nat.reduceAdd, Nat.reduceLeDiff, Nat.reduceBEq, Nat.zero_add, Nat.le_refl, decide_true, mkV, List.headD_cons, cellsV, w_fldV, w_ext, w_fldP, List.getElem?_toArray, List.getElem?_cons_zero, List.getElem?_cons_succ, beq_self_eq_true, selV, hok]
    refine c_dev_Read hown (hb.g gA) hm1 (by omega) fun x l1 b1 b2 Fx wx Hb hr gb => ?_
    try simp only [sv_cons, sv_cons1, sc_cons, sc_cons1, asB_bool, ifB_true, ifB_false, un_not, bin_lss, bin_leq, bin_gtr, bin_geq, bin_eql, bin_neq, bin_add, bin_sub, bin_mul, ok_int, ok_bool, ok_slice, ok_str, ok_ptr, ok_map, ok_func, ok_iface, ok_nil, List.all_cons, List.all_nil, Bool.and_true, Bool.true_and, seg, setSeg, List.drop_succ_cons, List.drop_zero, List.take_succ_cons, List.take_zero, List.cons_append, List.nil_append, List.append_nil, List.length_cons, List.length_nil, List.drop_nil, List.size_toArray, Nat.reduceAdd, Nat.reduceLeDiff, Nat.reduceBEq, Nat.zero_add, Nat.le_refl, decide_true, mkV, List.headD_cons, cellsV, w_fldV, w_ext, w_fldP, List.getElem?_toArray, List.getElem?_cons_zero, List.getElem?_cons_succ, beq_self_eq_true, selV]
    refine c_ref12_Read (ha.g (gA.trans gb)) (hb.g (gA.trans gb)) hm1 (by omega) fun y m Hc hy hm gc => ?_
    try simp only [sv_cons, sv_cons1, sc_cons, sc_cons1, asB_bool, ifB_true, ifB_false, un_not, bin_lss, bin_leq, bin_gtr, bin_geq, bin_eql, bin_neq, bin_add, bin_sub, bin_mul, ok_int, ok_bool, ok_slice, ok_str, ok_ptr, ok_map, ok_func, ok_iface, ok_nil, List.all_cons, List.all_nil, Bool.and_true, Bool.true_and, seg, setSeg, List.drop_succ_cons, List.drop_zero, List.take_succ_cons, List.take_zero, List.cons_append, List.nil_append, List.append_nil, List.length_cons, List.length_nil, List.drop_nil, List.size_toArray, Nat.reduceAdd, Nat.reduceLeDiff, Nat.reduceBEq, Nat.zero_add, Nat.le_refl, decide_true, mkV, List.headD_cons, cellsV, w_fldV, w_ext, w_fldP, List.getElem?_toArray, List.getElem?_cons_zero, List.getElem?_cons_succ, beq_self_eq_true, selV]
    have gac := gb.trans gc
    refine c_dev_Write (hown.g gac) (hb.g (gA.trans gac)) (hmine.g gac) hm1 (by omega) (by omega) hax' fun p n O Fp bn Hd hp gd => ?_
    have hok2 := hp.dv.okcv
    try simp only [sv_cons, sv_cons1, sc_cons, sc_cons1, asB_bool, ifB_true, ifB_false, un_not, bin_lss, bin_leq, bin_gtr, bin_geq, bin_eql, bin_neq, bin_add, bin_sub, bin_mul, ok_int, ok_bool, ok_slice, ok_str, ok_ptr, ok_map, ok_func, ok_iface, ok_nil, List.all_cons, List.all_nil, Bool.and_true, Bool.true_and, seg, setSeg, List.drop_succ_cons, List.drop_zero, List.take_succ_cons, List.take_zero, List.cons_append, List.nil_append, List.append_nil, List.length_cons, List.length_nil, List.drop_nil, List.size_toArray, Nat.reduceAdd, Nat.reduceLeDiff, Nat.reduceBEq, Nat.zero_add, Nat.le_refl, decide_true, mkV, List.headD_cons, cellsV, w_fldV, w_ext, w_fldP, List.getElem?_toArray, List.getElem?_cons_zero, List.getElem?_cons_succ, beq_self_eq_true, selV, hok2]
    refine newT_of fun He ge se => ?_
    have gae := (gac.trans gd).trans ge
    refine c_ref12_Write (ha.g (gA.trans gae)) (hb.g (gA.trans gae)) (hw.g (gA.trans gae)) hm1 (by omega) (by omega) hax' fun q o Hf hq ho gf => ?_
    have hok3 := hq.okcv
    try simp only [sv_cons, sv_cons1, sc_cons, sc_cons1, asB_bool, ifB_true, ifB_false, un_not, bin_lss, bin_leq, bin_gtr, bin_geq, bin_eql, bin_neq, bin_add, bin_sub, bin_mul, ok_int, ok_bool, ok_slice, ok_str, ok_ptr, ok_map, ok_func, ok_iface, ok_nil, List.all_cons, List.all_nil, Bool.and_true, Bool.true_and, seg, setSeg, List.drop_succ_cons, List.drop_zero, List.take_succ_cons, List.take_zero, List.cons_append, List.nil_append, List.append_nil, List.length_cons, List.length_nil, List.drop_nil, List.size_toArray, Nat.reduceAdd, Nat.reduceLeDiff, Nat.reduceBEq, Nat.zero_add, Nat.le_refl, decide_true, mkV, List.headD_cons, cellsV, w_fldV, w_ext, w_fldP, List.getElem?_toArray, List.getElem?_cons_zero, List.getElem?_cons_succ, beq_self_eq_true, selV, hok3]
    refine newT_of fun Hg gg sg => ?_
    have gbg := ((gc.trans gd).trans ge).trans (gf.trans gg)
    have gcg := (gd.trans ge).trans (gf.trans gg)
    have gdg := ge.trans (gf.trans gg)
    have sab := gb.size
    have sbc := gc.size
    have scd := gd.size
    have sde := ge.size
    have hmr := mid_reads (c := c) (level := level) (bs := bs) hm1
    have hmw := mid_wr (c := c) (level := level) (bs := bs) (all := all) hm1 hax'
    -- the lists of what is read, and seen
    have hrl : (if askE c d level bs = 0 then bs.map (bk d level) else []).length ≤ 20 := by split <;> simp; omega
    have hsl : (if askE c d level bs = 0 then seesR d level bs else []).length ≤ 20 := by split <;> simp [seesR]; omega
    have hnl : (if wrE c d level bs all = 0 then seesW level bs all else []).length ≤ 20 := by
      split
      · have := seesW_le (level := level) (l := bs) (all := all); omega
      · simp
    have hb1l := hr.o1.lt
    have hb2l := hr.o2.lt
    have hx1 : Sl rV Hb (fun y => y + 1 = b1) x wx := hr.o1.slF fun k hk => hk.symm
    have hl1 : Sl rSee Hb (fun y => ¬ Fx y ∧ y < Hb.size) l1 _ := hr.o2.sl (fun y hy hlt => ⟨hy.2.1, hlt⟩) fun k hk => ⟨fun hF => (hr.inF k hF).2.2.2 hk.symm, by omega⟩
    have hn1 : Sl rSee Hd (fun y => ¬ Fp y ∧ Hc.size ≤ y) n _ := hp.ss.sl (fun y hy hlt => ⟨hy.2.2.1, hy.1⟩) fun k hk => ⟨fun hF => (hp.inO k (.inr hF)).2.2 hk.symm, by have := hp.fb; omega⟩
    have hm' := hm.mono (A' := fun y => Hb.size ≤ y ∧ y < Hc.size) fun y hy hlt => ⟨hy, hlt⟩
    refine join_of (fun s H' => G Hg H' ∧ s = [[.bool true]]) (fun K hK => ?_) ?_
    · refine c_ref01_SameAll ((hx1.join (B := Fx) (hr.lf.imp fun u x hl => hl.1)).g gbg) (hy.g gcg) (by omega) ?_
      rw [decide_eq_true rfl]
      try simp only [sv_cons, sv_cons1, sc_cons, sc_cons1, asB_bool, ifB_true, ifB_false, un_not, bin_lss, bin_leq, bin_gtr, bin_geq, bin_eql, bin_neq, bin_add, bin_sub, bin_mul, ok_int, ok_bool, ok_slice, ok_str, ok_ptr, ok_map, ok_func, ok_iface, ok_nil, List.all_cons, List.all_nil, Bool.and_true, Bool.true_and, seg, setSeg, List.drop_succ_cons, List.drop_zero, List.take_succ_cons, List.take_zero, List.cons_append, List.nil_append, List.append_nil, List.length_cons, List.length_nil, List.drop_nil, List.size_toArray, Nat.reduceAdd, Nat.reduceLeDiff, Nat.reduceBEq, Nat.zero_add, Nat.le_refl, decide_true, mkV, List.headD_cons, cellsV, w_fldV, w_ext, w_fldP, List.getElem?_toArray, List.getElem?_cons_zero, List.getElem?_cons_succ, beq_self_eq_true, selV]
      refine c_ref12_SameSees (hl1.g gbg) (hm.g gcg) (by omega) ?_
      rw [decide_eq_true rfl]
      try simp only [sv_cons, sv_cons1, sc_cons, sc_cons1, asB_bool, ifB_true, ifB_false, un_not, bin_lss, bin_leq, bin_gtr, bin_geq, bin_eql, bin_neq, bin_add, bin_sub, bin_mul, ok_int, ok_bool, ok_slice, ok_str, ok_ptr, ok_map, ok_func, ok_iface, ok_nil, List.all_cons, List.all_nil, Bool.and_true, Bool.true_and, seg, setSeg, List.drop_succ_cons, List.drop_zero, List.take_succ_cons, List.take_zero, List.cons_append, List.nil_append, List.append_nil, List.length_cons, List.length_nil, List.drop_nil, List.size_toArray, Nat.reduceAdd, Nat.reduceLeDiff, Nat.reduceBEq, Nat.zero_add, Nat.le_refl, decide_true, mkV, List.headD_cons, cellsV, w_fldV, w_ext, w_fldP, List.getElem?_toArray, List.getElem?_cons_zero, List.getElem?_cons_succ, beq_self_eq_true, selV]
      exact hK _ _ ⟨Fr.refl _ _, rfl⟩
    rintro s Hi ⟨gi, rfl⟩
    refine join_of (fun s H' => G Hi H' ∧ s = [[.bool true]]) (fun K hK => ?_) ?_
    · refine c_ref12_Same ((hp.dv.sl (A := fun _ => True) fun _ _ => trivial).g (gdg.trans gi)) (hq.g (gg.trans gi)) (by have := hmw.1; omega) (fun x hx => by have := (hmw.2 x hx).1; omega) fun Hj gj => ?_
      rw [decide_eq_true rfl]
      try simp only [sv_cons, sv_cons1, sc_cons, sc_cons1, asB_bool, ifB_true, ifB_false, un_not, bin_lss, bin_leq, bin_gtr, bin_geq, bin_eql, bin_neq, bin_add, bin_sub, bin_mul, ok_int, ok_bool, ok_slice, ok_str, ok_ptr, ok_map, ok_func, ok_iface, ok_nil, List.all_cons, List.all_nil, Bool.and_true, Bool.true_and, seg, setSeg, List.drop_succ_cons, List.drop_zero, List.take_succ_cons, List.take_zero, List.cons_append, List.nil_append, List.append_nil, List.length_cons, List.length_nil, List.drop_nil, List.size_toArray, Nat.reduceAdd, Nat.reduceLeDiff, Nat.reduceBEq, Nat.zero_add, Nat.le_refl, decide_true, mkV, List.headD_cons, cellsV, w_fldV, w_ext, w_fldP, List.getElem?_toArray, List.getElem?_cons_zero, List.getElem?_cons_succ, beq_self_eq_true, selV]
      refine c_ref12_SameSees (hn1.g ((gdg.trans gi).trans gj)) (ho.g ((gg.trans gi).trans gj)) (by omega) ?_
      rw [decide_eq_true rfl]
      try simp only [sv_cons, sv_cons1, sc_cons, sc_cons1, asB_bool, ifB_true, ifB_false, un_not, bin_lss, bin_leq, bin_gtr, bin_geq, bin_eql, bin_neq, bin_add, bin_sub, bin_mul, ok_int, ok_bool, ok_slice, ok_str, ok_ptr, ok_map, ok_func, ok_iface, ok_nil, List.all_cons, List.all_nil, Bool.and_true, Bool.true_and, seg, setSeg, List.drop_succ_cons, List.drop_zero, List.take_succ_cons, List.take_zero, List.cons_append, List.nil_append, List.append_nil, List.length_cons, List.length_nil, List.drop_nil, List.size_toArray, Nat.reduceAdd, Nat.reduceLeDiff, Nat.reduceBEq, Nat.zero_add, Nat.le_refl, decide_true, mkV, List.headD_cons, cellsV, w_fldV, w_ext, w_fldP, List.getElem?_toArray, List.getElem?_cons_zero, List.getElem?_cons_succ, beq_self_eq_true, selV]
      exact hK _ _ ⟨gj, rfl⟩
    rintro s Hj ⟨gj, rfl⟩
    have gij := gi.trans gj
    refine c_law12_spoil (hp.dv.g (gdg.trans gij)) hmw fun Hk fk => ?_
    have fbk : Fr (fun y => ¬ Fp y) Hb Hk := Fr.trans (gbg.trans gij) fk fun y _ hy => ⟨trivial, hy⟩
    have xp : ∀ y, Fx y → ¬ Fp y := fun y hx hp' => by have := (hr.inF y hx).2.1; have := (hp.inO y (.inr hp')).1; omega
    refine spoil_loop (F := Fx) (hx1.up fbk fun y hy _ => ⟨fun hF => by have := (hp.inO y (.inr hF)).1; have hy' : y + 1 = b1 := hy; omega, hy⟩) (hr.lf.imp fun u x hl => hl.up fbk fun y hy _ => ⟨xp y hy, hy⟩) (fun y hy hF => (hr.inF y hF).2.2.1 hy) (by omega) hmr fun Hz wz => ?_
    have fz : Fr (fun y => ¬ Fp y ∧ ¬ Fx y) Hg Hz := Fr.trans (Fr.trans (C := fun y => ¬ Fp y) gij fk fun y _ hy => ⟨trivial, hy⟩) wz.fr fun y _ hy => ⟨hy.1, hy.2⟩
    have fpl : ∀ y, Fp y → Hc.size ≤ y ∧ y < Hd.size := fun y h => by have := hp.inO y (.inr h); omega
    have fxl : ∀ y, Fx y → Ha.size ≤ y ∧ y < Hb.size := fun y h => by have := hr.inF y h; omega
    have gag := gb.trans gbg
    have ka : Fr (fun y => y < Ha.size) Ha Hz := Fr.trans gag fz fun y _ (hy : y < Ha.size) => ⟨trivial, fun h => by have := fpl y h; omega, fun h => by have := fxl y h; omega⟩
    have hsA := gA.size
    have k0 : Fr (fun y => y < H.size) H Hz := Fr.trans gA ka fun y _ (hy : y < H.size) => ⟨trivial, show y < Ha.size by omega⟩
    have gz : G H Hz := k0.g fun y hy => hy
    refine join_of (fun s H' => G Hz H' ∧ s = [[.bool true]]) (fun K hK => ?_) ?_
    · try simp only [sv_cons, sv_cons1, sc_cons, sc_cons1, asB_bool, ifB_true, ifB_false, un_not, bin_lss, bin_leq, bin_gtr, bin_geq, bin_eql, bin_neq, bin_add, bin_sub, bin_mul, ok_int, ok_bool, ok_slice, ok_str, ok_ptr, ok_map, ok_func, ok_iface, ok_nil, List.all_cons, List.all_nil, Bool.and_true, Bool.true_and, seg, setSeg, List.drop_succ_cons, List.drop_zero, List.take_succ_cons, List.take_zero, List.cons_append, List.nil_append, List.append_nil, List.length_cons, List.length_nil, List.drop_nil, List.size_toArray, Nat.reduceAdd, Nat.reduceLeDiff, Nat.reduceBEq, Nat.zero_add, Nat.le_refl, decide_true, mkV, List.headD_cons, cellsV, w_fldV, w_ext, w_fldP, List.getElem?_toArray, List.getElem?_cons_zero, List.getElem?_cons_succ, beq_self_eq_true, selV]
      refine c_ref12_Same (hown.up ka fun y hy _ => ⟨hy, hy⟩) (ha.up k0 fun y hy _ => ⟨hy, hy⟩) (by have := hm1.1; omega) (fun x hx => by have := (hm1.2 x hx).1; omega) fun Hy gy => ?_
      rw [decide_eq_true rfl]
      try simp only [sv_cons, sv_cons1, sc_cons, sc_cons1, asB_bool, ifB_true, ifB_false, un_not, bin_lss, bin_leq, bin_gtr, bin_geq, bin_eql, bin_neq, bin_add, bin_sub, bin_mul, ok_int, ok_bool, ok_slice, ok_str, ok_ptr, ok_map, ok_func, ok_iface, ok_nil, List.all_cons, List.all_nil, Bool.and_true, Bool.true_and, seg, setSeg, List.drop_succ_cons, List.drop_zero, List.take_succ_cons, List.take_zero, List.cons_append, List.nil_append, List.append_nil, List.length_cons, List.length_nil, List.drop_nil, List.size_toArray, Nat.reduceAdd, Nat.reduceLeDiff, Nat.reduceBEq, Nat.zero_add, Nat.le_refl, decide_true, mkV, List.headD_cons, cellsV, w_fldV, w_ext, w_fldP, List.getElem?_toArray, List.getElem?_cons_zero, List.getElem?_cons_succ, beq_self_eq_true, selV]
      refine c_ref01_SameAll ((hmine.up ka fun y hy _ => ⟨hy, hy⟩).g gy) ((hw.up k0 fun y hy _ => ⟨hy, hy⟩).g gy) (by omega) ?_
      rw [decide_eq_true rfl]
      try simp only [sv_cons, sv_cons1, sc_cons, sc_cons1, asB_bool, ifB_true, ifB_false, un_not, bin_lss, bin_leq, bin_gtr, bin_geq, bin_eql, bin_neq, bin_add, bin_sub, bin_mul, ok_int, ok_bool, ok_slice, ok_str, ok_ptr, ok_map, ok_func, ok_iface, ok_nil, List.all_cons, List.all_nil, Bool.and_true, Bool.true_and, seg, setSeg, List.drop_succ_cons, List.drop_zero, List.take_succ_cons, List.take_zero, List.cons_append, List.nil_append, List.append_nil, List.length_cons, List.length_nil, List.drop_nil, List.size_toArray, Nat.reduceAdd, Nat.reduceLeDiff, Nat.reduceBEq, Nat.zero_add, Nat.le_refl, decide_true, mkV, List.headD_cons, cellsV, w_fldV, w_ext, w_fldP, List.getElem?_toArray, List.getElem?_cons_zero, List.getElem?_cons_succ, beq_self_eq_true, selV]
      refine c_ref12_SameSees (((hl1.g gbg).up fz fun y hy _ => ⟨⟨fun h => by have := fpl y h; have := hy.2; omega, hy.1⟩, hy⟩).g gy) (((hm'.g gcg).up fz fun y hy hlt => ⟨⟨fun h => by have := fpl y h; have hy' := hy.2; omega, fun h => by have := fxl y h; have hy' := hy.1; omega⟩, hy⟩).g gy) (by omega) ?_
      rw [decide_eq_true rfl]
      try simp only [sv_cons, sv_cons1, sc_cons, sc_cons1, asB_bool, ifB_true, ifB_false, un_not, bin_lss, bin_leq, bin_gtr, bin_geq, bin_eql, bin_neq, bin_add, bin_sub, bin_mul, ok_int, ok_bool, ok_slice, ok_str, ok_ptr, ok_map, ok_func, ok_iface, ok_nil, List.all_cons, List.all_nil, Bool.and_true, Bool.true_and, seg, setSeg, List.drop_succ_cons, List.drop_zero, List.take_succ_cons, List.take_zero, List.cons_append, List.nil_append, List.append_nil, List.length_cons, List.length_nil, List.drop_nil, List.size_toArray, Nat.reduceAdd, Nat.reduceLeDiff, Nat.reduceBEq, Nat.zero_add, Nat.le_refl, decide_true, mkV, List.headD_cons, cellsV, w_fldV, w_ext, w_fldP, List.getElem?_toArray, List.getElem?_cons_zero, List.getElem?_cons_succ, beq_self_eq_true, selV]
      refine c_ref12_SameSees (((hn1.g gdg).up fz fun y hy _ => ⟨⟨hy.1, fun h => by have := fxl y h; have := hy.2; omega⟩, hy⟩).g gy) (((ho.g gg).up fz fun y hy _ => ⟨⟨fun h => by have := fpl y h; have hy' : He.size ≤ y := hy; omega, fun h => by have := fxl y h; have hy' : He.size ≤ y := hy; omega⟩, hy⟩).g gy) (by omega) ?_
      rw [decide_eq_true rfl]
      exact hK _ _ ⟨gy, rfl⟩
    rintro s Hy ⟨gy, rfl⟩
    exact hQ _ (gz.trans gy)

end Go.Proofs.Ytikebhnnmnlgaaa
