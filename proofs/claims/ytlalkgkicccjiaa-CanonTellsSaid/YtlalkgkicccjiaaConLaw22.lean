/- Contracts: counts and canonical traces are as is said. -/
import Derived.Test.YtlalkgkicccjiaaConCanon9
import Derived.Test.YtlalkgkicccjiaaAbKind
namespace Go.Proofs.Ytlalkgkicccjiaa
open Go.Ab Go.Md
set_option linter.unusedVariables false
set_option linter.unusedSimpArgs false
set_option maxRecDepth 20000

variable {H : Heap} {Q : Value → Heap → Prop} {A B C : Nat → Prop}

theorem c_ref22_Trace {c : Cfg} {w a : Value} {cells : List (List Int)} {all : List By} {ticks : Int} (hc : Sl (rSl (rI .u32)) H B w cells) (ha : Sl rBy H C a all) (hcl : cells.length ≤ 1000000) (hal : all.length ≤ 1000000)
    (hQ : ∀ u H', Sl rSee H' (fun y => H.size ≤ y) u (trV c cells all ticks) → G H H' → Q (tup2 u (.int .i64 (trE c cells all ticks))) H') :
    callV Try.prog (fnV fn_ref22_Trace) [.agg (cCfg c).toArray, w, a, .int .i64 ticks] H Q := by
  apply S_ref22_Trace_of
  unfold S_ref22_Trace
  refine newT_of fun H1 g1 s1 => c_ref22_Count fun H2 g2 => ?_
  have g := g1.trans g2
  try simp only [sv_cons, sv_cons1, sc_cons, sc_cons1, asB_bool, ifB_true, ifB_false, un_not, bin_lss, bin_leq, bin_gtr, bin_geq, bin_eql, bin_neq, bin_add, bin_sub, bin_mul, ok_int, ok_bool, ok_slice, ok_str, ok_ptr, ok_map, ok_func, ok_iface, ok_nil, List.all_cons, List.all_nil, Bool.and_true, Bool.true_and, seg, setSeg, List.drop_succ_cons, List.drop_zero, List.take_succ_cons, List.take_zero, List.cons_append, List.nil_append, List.append_nil, List.length_cons, List.length_nil, List.drop_nil, List.size_toArray, Nat.reduceAdd, Nat.reduceLeDiff, Nat.reduceBEq, Nat.zero_add, Nat.le_refl, decide_true, mkV, List.headD_cons, cellsV, w_fldV, w_ext, w_fldP, List.getElem?_toArray, List.getElem?_cons_zero, List.getElem?_cons_succ, beq_self_eq_true, selV]
  refine ifD_of (fun c1 => ?_) (fun c1 => ?_)
  · have e : trE c cells all ticks = cntE c ticks := by unfold trE; rw [if_neg c1]
    have := hQ (.slice none 0 0) H2 (by unfold trV; rw [e, if_neg c1]; exact Sl.nil _ _ _ _ _) g
    rw [e] at this
    exact this
  have e0 : cntE c ticks = 0 := by omega
  have hm : c.may := by
    unfold cntE at e0
    split at e0
    · assumption
    · cases e0
  have htr : 0 ≤ ticks ∧ ticks ≤ 512 := by
    unfold cntE at e0
    rw [if_pos hm] at e0
    split at e0
    · cases e0
    · omega
  have er : trE c cells all ticks = if fitV c.all cells all ticks.toNat then 0 else 2 := by unfold trE; rw [if_pos e0]
  rw [show (.int .i64 ticks : Value) = .int .i64 ((ticks.toNat : Nat) : Int) by rw [Int.toNat_of_nonneg htr.1]]
  refine c_ref22_Texts hm (hc.g g) (ha.g g) (by omega) hcl hal fun H3 g3 => ?_
  have g3' := g.trans g3
  have hgs := g3'.size
  by_cases hf : fitV c.all cells all ticks.toNat
  · rw [decide_eq_true hf]
    rw [if_pos hf] at er
    try simp only [sv_cons, sv_cons1, sc_cons, sc_cons1, asB_bool, ifB_true, ifB_false, un_not, bin_lss, bin_leq, bin_gtr, bin_geq, bin_eql, bin_neq, bin_add, bin_sub, bin_mul, ok_int, ok_bool, ok_slice, ok_str, ok_ptr, ok_map, ok_func, ok_iface, ok_nil, List.all_cons, List.all_nil, Bool.and_true, Bool.true_and, seg, setSeg, List.drop_succ_cons, List.drop_zero, List.take_succ_cons, List.take_zero, List.cons_append, List.nil_append, List.append_nil, List.length_cons, List.length_nil, List.drop_nil, List.size_toArray, Nat.reduceAdd, Nat.reduceLeDiff, Nat.reduceBEq, Nat.zero_add, Nat.le_refl, decide_true, mkV, List.headD_cons, cellsV, w_fldV, w_ext, w_fldP, List.getElem?_toArray, List.getElem?_cons_zero, List.getElem?_cons_succ, beq_self_eq_true, selV, Bool.not_true]
    refine c_ref22_Seen hm (hc.g g3') (ha.g g3') (by omega) hal hf fun v H4 hv g4 => ?_
    have hok := Cfg.all_ok hm.1
    have hT := allT_ok (cells := cells) (ticks := ticks.toNat) hok
    have hwl : (wrL (allT c.all cells ticks.toNat)).length ≤ all.length := by
      have h1 := wr_all (cells := cells) (ticks := ticks.toNat) hok
      have h2 := hf.2.1
      omega
    have hr := (runS_eq (c := c) (all := all) hT hwl).1
    have ev : trV c cells all ticks = (runP c all (plL (allT c.all cells ticks.toNat))).2.2 := by unfold trV; rw [er, if_pos rfl, hr]
    have := hQ v H4 (by rw [ev]; exact hv.mono fun y hy _ => by omega) (g3'.trans g4)
    rw [er] at this
    exact this
  · rw [decide_eq_false hf]
    rw [if_neg hf] at er
    try simp only [sv_cons, sv_cons1, sc_cons, sc_cons1, asB_bool, ifB_true, ifB_false, un_not, bin_lss, bin_leq, bin_gtr, bin_geq, bin_eql, bin_neq, bin_add, bin_sub, bin_mul, ok_int, ok_bool, ok_slice, ok_str, ok_ptr, ok_map, ok_func, ok_iface, ok_nil, List.all_cons, List.all_nil, Bool.and_true, Bool.true_and, seg, setSeg, List.drop_succ_cons, List.drop_zero, List.take_succ_cons, List.take_zero, List.cons_append, List.nil_append, List.append_nil, List.length_cons, List.length_nil, List.drop_nil, List.size_toArray, Nat.reduceAdd, Nat.reduceLeDiff, Nat.reduceBEq, Nat.zero_add, Nat.le_refl, decide_true, mkV, List.headD_cons, cellsV, w_fldV, w_ext, w_fldP, List.getElem?_toArray, List.getElem?_cons_zero, List.getElem?_cons_succ, beq_self_eq_true, selV, Bool.not_false]
    have := hQ (.slice none 0 0) H3 (by unfold trV; rw [er, if_neg (by omega)]; exact Sl.nil _ _ _ _ _) g3'
    rw [er] at this
    exact this

theorem runS_bytes {c : Cfg} {all : List By} {T : List Turn} (hc : c.may) (hT : ∀ t ∈ T, TOk c.all t) (hf : fitP c.all all (wrL T)) (hn : (wrL T).length ≤ all.length) (hb : ∀ x ∈ all, x.length ≤ 1000000) :
    ∀ i, i ≤ T.length → ∀ s ∈ (runS c all (T.take i)).2.2, s.bytes.length ≤ 1000000
  | 0, _ => by intro s hs; cases hs
  | i + 1, hi => by
    have ih := runS_bytes hc hT hf hn hb i (by omega)
    obtain ⟨h1, h2, h3⟩ := runS_inv hc hT hf hn i (by omega)
    have ht : T[i]? = some T[i] := List.getElem?_eq_getElem (by omega)
    generalize T[i] = t at *
    rw [runS_take ht]
    generalize runS c all (T.take i) = s at *
    intro x hx
    unfold turnS at hx
    split at hx
    · rcases List.mem_append.1 hx with hx | hx
      · exact ih x hx
      · obtain ⟨b, _, rfl⟩ := List.mem_map.1 hx
        exact mid_bk (may_mid h1)
    · rcases List.mem_append.1 hx with hx | hx
      · exact ih x hx
      · have hsw : ∀ (l : List Int) (xs : List By), (∀ y ∈ xs, y.length ≤ 1000000) → ∀ z ∈ seesW t.level l xs, z.bytes.length ≤ 1000000 := by
          intro l
          induction l with
          | nil => intro xs _ z hz; simp [seesW] at hz
          | cons b l ih =>
            intro xs hxs z hz
            cases xs with
            | nil => simp [seesW] at hz
            | cons y xs =>
              rw [show seesW t.level (b :: l) (y :: xs) = ⟨2, t.level, b, y⟩ :: seesW t.level l xs from rfl] at hz
              rcases List.mem_cons.1 hz with rfl | hz
              · exact hxs y (by simp)
              · exact ih xs (fun y hy => hxs y (by simp [hy])) z hz
        refine hsw _ _ (fun y hy => ?_) x hx
        rw [h2] at hy
        exact hb y (List.mem_of_mem_drop (List.mem_of_mem_take hy))

theorem trV_small {c : Cfg} {cells : List (List Int)} {all : List By} {ticks : Int} (hb : ∀ x ∈ all, x.length ≤ 1000000) : (trV c cells all ticks).length ≤ 2000000 ∧ ∀ s ∈ trV c cells all ticks, s.bytes.length ≤ 1000000 := by
  unfold trV
  by_cases e : trE c cells all ticks = 0
  · rw [if_pos e]
    have hcE : cntE c ticks = 0 := by
      unfold trE at e
      split at e
      · assumption
      · exact e
    have hfv : fitV c.all cells all ticks.toNat := by
      unfold trE at e
      rw [if_pos hcE] at e
      split at e
      · assumption
      · cases e
    have hm : c.may := by
      unfold cntE at hcE
      split at hcE
      · assumption
      · cases hcE
    have htr : 0 ≤ ticks ∧ ticks ≤ 512 := by
      unfold cntE at hcE
      rw [if_pos hm] at hcE
      split at hcE
      · cases hcE
      · omega
    have hok := Cfg.all_ok hm.1
    have hT := allT_ok (cells := cells) (ticks := ticks.toNat) hok
    have hwl : (wrL (allT c.all cells ticks.toNat)).length ≤ all.length := by
      have h1 := wr_all (cells := cells) (ticks := ticks.toNat) hok
      have h2 := hfv.2.1
      omega
    have hTl : (allT c.all cells ticks.toNat).length ≤ 10000 := by
      rw [allT_len]
      have h4 := hm.2
      have h1 : 4 * c.all.length * ticks.toNat ≤ 16 * 512 := Nat.mul_le_mul (by omega) (by omega)
      omega
    have k1 := runS_inv hm hT hfv.2.2 hwl _ (Nat.le_refl _)
    have k2 := runS_bytes hm hT hfv.2.2 hwl hb _ (Nat.le_refl _)
    rw [List.take_length] at k1 k2
    exact ⟨by omega, k2⟩
  · rw [if_neg e]
    exact ⟨by simp, fun s hs => by cases hs⟩

/-! ### What is seen is written over -/

theorem loose_See : Loose rSee (fun s => s.bytes.length) := by
  intro H H' A cs cs' x ⟨v, hc, hv⟩ hW hk hs
  subst hc
  obtain ⟨hl, hs⟩ := hs
  match cs', hl with
  | [y0, y1, y2, y3], _ =>
    have key : ∀ (q : IntKind) (a : Int) (y : Value), SameK (.int q a) y → ∃ b, y = .int q b := fun q a y h => by
      rcases h with e | ⟨q', a', b, e1, e2, e3⟩
      · exact ⟨_, e.symm⟩
      · cases e1; exact ⟨b, e2⟩
    obtain ⟨a, rfl⟩ := key _ _ _ (hs 0 _ y0 rfl rfl)
    obtain ⟨b, rfl⟩ := key _ _ _ (hs 1 _ y1 rfl rfl)
    obtain ⟨d, rfl⟩ := key _ _ _ (hs 2 _ y2 rfl rfl)
    have e3 : y3 = v := by
      rcases hs 3 _ y3 rfl rfl with e | ⟨q', a, b, e1, e2, e3⟩
      · exact e.symm
      · subst e1
        obtain ⟨_, _, _, h, _⟩ := hv
        cases h
    subst e3
    obtain ⟨z, h1, h2⟩ := hv.kd loose_U8 hW hk
    exact ⟨⟨a, b, d, z⟩, ⟨_, rfl, h1⟩, by have := congrArg List.length h2; simpa using this⟩

theorem c_law22_CanonTells {c : Cfg} {w a z : Value} {cells : List (List Int)} {all : List By} {ticks : Int} {l : List See} (hc : Sl (rSl (rI .u32)) H A w cells) (ha : Sl rBy H B a all) (hz : Sl rSee H C z l) (ht : i64 ticks) (hzb : ∀ s ∈ l, s.bytes.length ≤ 140737488355328)
    (hQ : ∀ H', G H H' → Q (.bool true) H') : callV Try.prog (fnV fn_law22_CanonTells) [.agg (cCfg c).toArray, w, a, .int .i64 ticks, z] H Q := by
  apply S_law22_CanonTells_of
  unfold S_law22_CanonTells
  have hc := hc.old
  have ha := ha.old
  have hz := hz.old
  refine newT_of fun H1 g1 s1 => ?_
  refine join_of (fun s H' => H' = H1 ∧ ∃ b : Bool, s = [[.bool b]] ∧ (b = false → FitsL cells all ∧ l.length ≤ 2000)) (fun K hK => ?_) ?_
  · refine c_ref22_Great (hc.g g1) (ha.g g1) fun b hb => ?_
    try simp only [sv_cons, sv_cons1, sc_cons, sc_cons1, asB_bool, ifB_true, ifB_false, un_not, bin_lss, bin_leq, bin_gtr, bin_geq, bin_eql, bin_neq, bin_add, bin_sub, bin_mul, ok_int, ok_bool, ok_slice, ok_str, ok_ptr, ok_map, ok_func, ok_iface, ok_nil, List.all_cons, List.all_nil, Bool.and_true, Bool.true_and, seg, setSeg, List.drop_succ_cons, List.drop_zero, List.take_succ_cons, List.take_zero, List.cons_append, List.nil_append, List.append_nil, List.length_cons, List.length_nil, List.drop_nil, List.size_toArray, Nat.reduceAdd, Nat.reduceLeDiff, Nat.reduceBEq, Nat.zero_add, Nat.le_refl, decide_true, mkV, List.headD_cons, cellsV, w_fldV, w_ext, w_fldP, List.getElem?_toArray, List.getElem?_cons_zero, List.getElem?_cons_succ, beq_self_eq_true, selV]
    refine ifB_of (fun hbt => hK _ _ ⟨rfl, true, rfl, fun h => by cases h⟩) (fun hbf => ?_)
    exact c_ref12_GreatSees (hz.g g1) fun b2 hb2 => hK _ _ ⟨rfl, b2, rfl, fun h => ⟨hb hbf, hb2 h⟩⟩
  rintro s H' ⟨rfl, b, rfl, hb⟩
  try simp only [sv_cons, sv_cons1, sc_cons, sc_cons1, asB_bool, ifB_true, ifB_false, un_not, bin_lss, bin_leq, bin_gtr, bin_geq, bin_eql, bin_neq, bin_add, bin_sub, bin_mul, ok_int, ok_bool, ok_slice, ok_str, ok_ptr, ok_map, ok_func, ok_iface, ok_nil, List.all_cons, List.all_nil, Bool.and_true, Bool.true_and, seg, setSeg, List.drop_succ_cons, List.drop_zero, List.take_succ_cons, List.take_zero, List.cons_append, List.nil_append, List.append_nil, List.length_cons, List.length_nil, List.drop_nil, List.size_toArray, Nat.reduceAdd, Nat.reduceLeDiff, Nat.reduceBEq, Nat.zero_add, Nat.le_refl, decide_true, mkV, List.headD_cons, cellsV, w_fldV, w_ext, w_fldP, List.getElem?_toArray, List.getElem?_cons_zero, List.getElem?_cons_succ, beq_self_eq_true, selV]
  refine ifB_of (fun _ => hQ _ g1) (fun hbf => ?_)
  obtain ⟨⟨f1, f2, f3, f4⟩, f5⟩ := hb hbf
  refine c_ref22_TwinLanes (hc.g g1) (by omega) (fun x hx => by have := f2 x hx; omega) fun wo H2 hwo g2 => ?_
  have g12 := g1.trans g2
  refine c_ref12_TwinAll (ha.g g12) (by omega) (fun x hx => by have := f4 x hx; omega) fun ao bo vo Fo H3 hcl => ?_
  have hao : Sl rBy H3 (fun y => H2.size ≤ y) ao all := by
    have h1 := (hcl.own.slF (A' := fun y => H2.size ≤ y) fun k hk => by have := hcl.fresh; omega).join (B := fun y => H2.size ≤ y) (hcl.leaves.imp fun u x hu => hu.1.mono fun y hy _ => (hcl.freshF y hy).1)
    exact h1.mono fun y hy _ => hy.elim id id
  have g13 := g12.trans hcl.g
  have hwo := hwo.g hcl.g
  refine c_canon_Count ht fun H4 g4 => ?_
  have hwo := hwo.g g4
  have hao := hao.g g4
  have g14 := g13.trans g4
  try simp only [sv_cons, sv_cons1, sc_cons, sc_cons1, asB_bool, ifB_true, ifB_false, un_not, bin_lss, bin_leq, bin_gtr, bin_geq, bin_eql, bin_neq, bin_add, bin_sub, bin_mul, ok_int, ok_bool, ok_slice, ok_str, ok_ptr, ok_map, ok_func, ok_iface, ok_nil, List.all_cons, List.all_nil, Bool.and_true, Bool.true_and, seg, setSeg, List.drop_succ_cons, List.drop_zero, List.take_succ_cons, List.take_zero, List.cons_append, List.nil_append, List.append_nil, List.length_cons, List.length_nil, List.drop_nil, List.size_toArray, Nat.reduceAdd, Nat.reduceLeDiff, Nat.reduceBEq, Nat.zero_add, Nat.le_refl, decide_true, mkV, List.headD_cons, cellsV, w_fldV, w_ext, w_fldP, List.getElem?_toArray, List.getElem?_cons_zero, List.getElem?_cons_succ, beq_self_eq_true, selV]
  refine c_ref22_Count fun H5 g5 => ?_
  have hwo := (hwo.g g5).old
  have hao := (hao.g g5).old
  have g15 := g14.trans g5
  have hz15 := g15.size
  try simp only [sv_cons, sv_cons1, sc_cons, sc_cons1, asB_bool, ifB_true, ifB_false, un_not, bin_lss, bin_leq, bin_gtr, bin_geq, bin_eql, bin_neq, bin_add, bin_sub, bin_mul, ok_int, ok_bool, ok_slice, ok_str, ok_ptr, ok_map, ok_func, ok_iface, ok_nil, List.all_cons, List.all_nil, Bool.and_true, Bool.true_and, seg, setSeg, List.drop_succ_cons, List.drop_zero, List.take_succ_cons, List.take_zero, List.cons_append, List.nil_append, List.append_nil, List.length_cons, List.length_nil, List.drop_nil, List.size_toArray, Nat.reduceAdd, Nat.reduceLeDiff, Nat.reduceBEq, Nat.zero_add, Nat.le_refl, decide_true, mkV, List.headD_cons, cellsV, w_fldV, w_ext, w_fldP, List.getElem?_toArray, List.getElem?_cons_zero, List.getElem?_cons_succ, beq_self_eq_true, selV]
  refine callV_new ?_
  refine c_canon_Trace (c := c) hwo hao ht (by omega) (by omega) (fun x hx => by have := f4 x hx; omega) fun x H6 hx g6 hWb => ?_
  have hx : Sl rSee H6 (fun y => H5.size ≤ y ∧ y < H6.size) x (trV c cells all ticks) := hx.mono fun y hy hlt => ⟨hy, hlt⟩
  have hWb : Wbl (fun y => H5.size ≤ y ∧ y < H6.size) H6 := hWb.mono fun y hy => hy.1
  have hwo := hwo.g g6
  have hao := hao.g g6
  have g16 := g15.trans g6
  try simp only [sv_cons, sv_cons1, sc_cons, sc_cons1, asB_bool, ifB_true, ifB_false, un_not, bin_lss, bin_leq, bin_gtr, bin_geq, bin_eql, bin_neq, bin_add, bin_sub, bin_mul, ok_int, ok_bool, ok_slice, ok_str, ok_ptr, ok_map, ok_func, ok_iface, ok_nil, List.all_cons, List.all_nil, Bool.and_true, Bool.true_and, seg, setSeg, List.drop_succ_cons, List.drop_zero, List.take_succ_cons, List.take_zero, List.cons_append, List.nil_append, List.append_nil, List.length_cons, List.length_nil, List.drop_nil, List.size_toArray, Nat.reduceAdd, Nat.reduceLeDiff, Nat.reduceBEq, Nat.zero_add, Nat.le_refl, decide_true, mkV, List.headD_cons, cellsV, w_fldV, w_ext, w_fldP, List.getElem?_toArray, List.getElem?_cons_zero, List.getElem?_cons_succ, beq_self_eq_true, selV]
  refine c_ref22_Trace (c := c) (hc.g g16) (ha.g g16) (by omega) (by omega) fun y H7 hy g7 => ?_
  have g17 := g16.trans g7
  obtain ⟨t1, t2⟩ := trV_small (c := c) (cells := cells) (all := all) (ticks := ticks) fun x hx => by have := f4 x hx; omega
  generalize trV c cells all ticks = tl at *
  have hx7 := hx.g g7
  try simp only [sv_cons, sv_cons1, sc_cons, sc_cons1, asB_bool, ifB_true, ifB_false, un_not, bin_lss, bin_leq, bin_gtr, bin_geq, bin_eql, bin_neq, bin_add, bin_sub, bin_mul, ok_int, ok_bool, ok_slice, ok_str, ok_ptr, ok_map, ok_func, ok_iface, ok_nil, List.all_cons, List.all_nil, Bool.and_true, Bool.true_and, seg, setSeg, List.drop_succ_cons, List.drop_zero, List.take_succ_cons, List.take_zero, List.cons_append, List.nil_append, List.append_nil, List.length_cons, List.length_nil, List.drop_nil, List.size_toArray, Nat.reduceAdd, Nat.reduceLeDiff, Nat.reduceBEq, Nat.zero_add, Nat.le_refl, decide_true, mkV, List.headD_cons, cellsV, w_fldV, w_ext, w_fldP, List.getElem?_toArray, List.getElem?_cons_zero, List.getElem?_cons_succ, beq_self_eq_true, selV]
  refine join_of (fun s H' => s = [[.bool true]] ∧ G H7 H') (fun K hK => ?_) ?_
  · try simp only [sv_cons, sv_cons1, sc_cons, sc_cons1, asB_bool, ifB_true, ifB_false, un_not, bin_lss, bin_leq, bin_gtr, bin_geq, bin_eql, bin_neq, bin_add, bin_sub, bin_mul, ok_int, ok_bool, ok_slice, ok_str, ok_ptr, ok_map, ok_func, ok_iface, ok_nil, List.all_cons, List.all_nil, Bool.and_true, Bool.true_and, seg, setSeg, List.drop_succ_cons, List.drop_zero, List.take_succ_cons, List.take_zero, List.cons_append, List.nil_append, List.append_nil, List.length_cons, List.length_nil, List.drop_nil, List.size_toArray, Nat.reduceAdd, Nat.reduceLeDiff, Nat.reduceBEq, Nat.zero_add, Nat.le_refl, decide_true, mkV, List.headD_cons, cellsV, w_fldV, w_ext, w_fldP, List.getElem?_toArray, List.getElem?_cons_zero, List.getElem?_cons_succ, beq_self_eq_true, selV, decide_true, eq_self]
    refine c_ref12_SameSees hx7 hy (by omega) ?_
    rw [decide_eq_true rfl]
    try simp only [sv_cons, sv_cons1, sc_cons, sc_cons1, asB_bool, ifB_true, ifB_false, un_not, bin_lss, bin_leq, bin_gtr, bin_geq, bin_eql, bin_neq, bin_add, bin_sub, bin_mul, ok_int, ok_bool, ok_slice, ok_str, ok_ptr, ok_map, ok_func, ok_iface, ok_nil, List.all_cons, List.all_nil, Bool.and_true, Bool.true_and, seg, setSeg, List.drop_succ_cons, List.drop_zero, List.take_succ_cons, List.take_zero, List.cons_append, List.nil_append, List.append_nil, List.length_cons, List.length_nil, List.drop_nil, List.size_toArray, Nat.reduceAdd, Nat.reduceLeDiff, Nat.reduceBEq, Nat.zero_add, Nat.le_refl, decide_true, mkV, List.headD_cons, cellsV, w_fldV, w_ext, w_fldP, List.getElem?_toArray, List.getElem?_cons_zero, List.getElem?_cons_succ, beq_self_eq_true, selV, decide_true, eq_self]
    refine c_canon_Written (hz.g g17) (by omega) hzb fun v8 H8 hv8 g8 => ?_
    refine c_ref22_Written (hz.g (g17.trans g8)) (by omega) hzb fun v9 H9 hv9 g9 => ?_
    refine c_ref01_SameAll (hv8.g g9) hv9 (by have := written_len (l := l); omega) ?_
    rw [decide_eq_true rfl]
    exact hK _ _ ⟨rfl, g8.trans g9⟩
  rintro s H8 ⟨rfl, g8⟩
  have hx8 := hx7.g g8
  have g68 := g7.trans g8
  have hW8 : Wbl (fun y => H5.size ≤ y ∧ y < H6.size) H8 := hWb.fr g68 fun y hy => ⟨hy.2, trivial⟩
  have hwo := hwo.g g68
  have hao := hao.g g68
  have g18 := g17.trans g8
  generalize hA : (fun y : Nat => H5.size ≤ y ∧ y < H6.size) = A6 at *
  refine loop_up tl.length (fun i st H' => Kd A6 H8 H' ∧ st = [[.int .i64 (i : Int)]]) ⟨.refl _ _, rfl⟩ ?_
  rintro i st H9 K9 hi ⟨k9, rfl⟩ hK9
  obtain ⟨l9, hx9, hsh⟩ := hx8.kd loose_See hW8 k9
  have hsl : l9.length = tl.length := by have := congrArg List.length hsh; simpa using this
  refine hx9.len ?_
  try simp only [sv_cons, sv_cons1, sc_cons, sc_cons1, asB_bool, ifB_true, ifB_false, un_not, bin_lss, bin_leq, bin_gtr, bin_geq, bin_eql, bin_neq, bin_add, bin_sub, bin_mul, ok_int, ok_bool, ok_slice, ok_str, ok_ptr, ok_map, ok_func, ok_iface, ok_nil, List.all_cons, List.all_nil, Bool.and_true, Bool.true_and, seg, setSeg, List.drop_succ_cons, List.drop_zero, List.take_succ_cons, List.take_zero, List.cons_append, List.nil_append, List.append_nil, List.length_cons, List.length_nil, List.drop_nil, List.size_toArray, Nat.reduceAdd, Nat.reduceLeDiff, Nat.reduceBEq, Nat.zero_add, Nat.le_refl, decide_true, mkV, List.headD_cons, cellsV, w_fldV, w_ext, w_fldP, List.getElem?_toArray, List.getElem?_cons_zero, List.getElem?_cons_succ, beq_self_eq_true, selV]
  refine ifD_of (fun h1 => ?_) (fun h1 => ?_)
  · have hlt : i < l9.length := by omega
    have htl : i < tl.length := by omega
    have hbl := t2 _ (List.getElem_mem htl)
    refine loop_up tl[i].bytes.length (fun j st H' => Kd A6 H8 H' ∧ st = [[.int .i64 (j : Int)]]) ⟨k9, rfl⟩ ?_
    rintro j st H10 K10 hj ⟨k10, rfl⟩ hK10
    obtain ⟨l10, hx10, hsh10⟩ := hx8.kd loose_See hW8 k10
    have hsl10 : l10.length = tl.length := by have := congrArg List.length hsh10; simpa using this
    have hxi : l10[i]? = some (l10[i]'(by omega)) := List.getElem?_eq_getElem _
    have hdl : (l10[i]'(by omega)).bytes.length = tl[i].bytes.length := by
      have h1 := congrArg (·[i]?) hsh10
      simp only [List.getElem?_map, hxi, List.getElem?_eq_getElem htl, Option.map_some, Option.some.injEq] at h1
      exact h1
    generalize l10[i]'(by omega) = sv at hxi hdl
    have hget : ∀ (kk : Value → Prop), (∀ p u, AtC H10 A6 p [.int .u8 sv.kind, .int .i64 sv.level, .int .i64 sv.bucket, u] → Sl rU8 H10 A6 u sv.bytes → kk p) → idxS 4 x (.int .i64 (i : Int)) kk := fun kk hkk => hx10.at rfl hxi fun p cs hp hr => by
      obtain ⟨w, hc, hw⟩ := hr
      subst hc
      exact hkk p w hp hw
    refine hget _ fun pa ua hpa hua => hpa.fld1 (by simp) fun p2 hp2 => hp2.load rfl ?_
    try simp only [sv_cons, sv_cons1, sc_cons, sc_cons1, asB_bool, ifB_true, ifB_false, un_not, bin_lss, bin_leq, bin_gtr, bin_geq, bin_eql, bin_neq, bin_add, bin_sub, bin_mul, ok_int, ok_bool, ok_slice, ok_str, ok_ptr, ok_map, ok_func, ok_iface, ok_nil, List.all_cons, List.all_nil, Bool.and_true, Bool.true_and, seg, setSeg, List.drop_succ_cons, List.drop_zero, List.take_succ_cons, List.take_zero, List.cons_append, List.nil_append, List.append_nil, List.length_cons, List.length_nil, List.drop_nil, List.size_toArray, Nat.reduceAdd, Nat.reduceLeDiff, Nat.reduceBEq, Nat.zero_add, Nat.le_refl, decide_true, mkV, List.headD_cons, cellsV, w_fldV, w_ext, w_fldP, List.getElem?_toArray, List.getElem?_cons_zero, List.getElem?_cons_succ, beq_self_eq_true, selV]
    refine hua.len ?_
    try simp only [sv_cons, sv_cons1, sc_cons, sc_cons1, asB_bool, ifB_true, ifB_false, un_not, bin_lss, bin_leq, bin_gtr, bin_geq, bin_eql, bin_neq, bin_add, bin_sub, bin_mul, ok_int, ok_bool, ok_slice, ok_str, ok_ptr, ok_map, ok_func, ok_iface, ok_nil, List.all_cons, List.all_nil, Bool.and_true, Bool.true_and, seg, setSeg, List.drop_succ_cons, List.drop_zero, List.take_succ_cons, List.take_zero, List.cons_append, List.nil_append, List.append_nil, List.length_cons, List.length_nil, List.drop_nil, List.size_toArray, Nat.reduceAdd, Nat.reduceLeDiff, Nat.reduceBEq, Nat.zero_add, Nat.le_refl, decide_true, mkV, List.headD_cons, cellsV, w_fldV, w_ext, w_fldP, List.getElem?_toArray, List.getElem?_cons_zero, List.getElem?_cons_succ, beq_self_eq_true, selV]
    refine ifD_of (fun h2 => ?_) (fun h2 => ?_)
    · refine hget _ fun pb ub hpb hub => hpb.fld1 (by simp) fun p3 hp3 => hp3.load rfl ?_
      try simp only [sv_cons, sv_cons1, sc_cons, sc_cons1, asB_bool, ifB_true, ifB_false, un_not, bin_lss, bin_leq, bin_gtr, bin_geq, bin_eql, bin_neq, bin_add, bin_sub, bin_mul, ok_int, ok_bool, ok_slice, ok_str, ok_ptr, ok_map, ok_func, ok_iface, ok_nil, List.all_cons, List.all_nil, Bool.and_true, Bool.true_and, seg, setSeg, List.drop_succ_cons, List.drop_zero, List.take_succ_cons, List.take_zero, List.cons_append, List.nil_append, List.append_nil, List.length_cons, List.length_nil, List.drop_nil, List.size_toArray, Nat.reduceAdd, Nat.reduceLeDiff, Nat.reduceBEq, Nat.zero_add, Nat.le_refl, decide_true, mkV, List.headD_cons, cellsV, w_fldV, w_ext, w_fldP, List.getElem?_toArray, List.getElem?_cons_zero, List.getElem?_cons_succ, beq_self_eq_true, selV]
      refine hget _ fun pc uc hpc huc => hpc.fld1 (by simp) fun p4 hp4 => hp4.load rfl ?_
      try simp only [sv_cons, sv_cons1, sc_cons, sc_cons1, asB_bool, ifB_true, ifB_false, un_not, bin_lss, bin_leq, bin_gtr, bin_geq, bin_eql, bin_neq, bin_add, bin_sub, bin_mul, ok_int, ok_bool, ok_slice, ok_str, ok_ptr, ok_map, ok_func, ok_iface, ok_nil, List.all_cons, List.all_nil, Bool.and_true, Bool.true_and, seg, setSeg, List.drop_succ_cons, List.drop_zero, List.take_succ_cons, List.take_zero, List.cons_append, List.nil_append, List.append_nil, List.length_cons, List.length_nil, List.drop_nil, List.size_toArray, Nat.reduceAdd, Nat.reduceLeDiff, Nat.reduceBEq, Nat.zero_add, Nat.le_refl, decide_true, mkV, List.headD_cons, cellsV, w_fldV, w_ext, w_fldP, List.getElem?_toArray, List.getElem?_cons_zero, List.getElem?_cons_succ, beq_self_eq_true, selV]
      have hlt3 : j < sv.bytes.length := by omega
      have hxj : sv.bytes[j]? = some sv.bytes[j] := List.getElem?_eq_getElem hlt3
      refine huc.at rfl hxj fun p5 cs5 hp5 hr5 => ?_
      obtain ⟨hc5, _⟩ := hr5
      subst hc5
      refine hp5.load rfl ?_
      try simp only [sv_cons, sv_cons1, sc_cons, sc_cons1, asB_bool, ifB_true, ifB_false, un_not, bin_lss, bin_leq, bin_gtr, bin_geq, bin_eql, bin_neq, bin_add, bin_sub, bin_mul, ok_int, ok_bool, ok_slice, ok_str, ok_ptr, ok_map, ok_func, ok_iface, ok_nil, List.all_cons, List.all_nil, Bool.and_true, Bool.true_and, seg, setSeg, List.drop_succ_cons, List.drop_zero, List.take_succ_cons, List.take_zero, List.cons_append, List.nil_append, List.append_nil, List.length_cons, List.length_nil, List.drop_nil, List.size_toArray, Nat.reduceAdd, Nat.reduceLeDiff, Nat.reduceBEq, Nat.zero_add, Nat.le_refl, decide_true, mkV, List.headD_cons, cellsV, w_fldV, w_ext, w_fldP, List.getElem?_toArray, List.getElem?_cons_zero, List.getElem?_cons_succ, beq_self_eq_true, selV]
      refine hub.at rfl hxj fun p6 cs6 hp6 hr6 => ?_
      obtain ⟨hc6, _⟩ := hr6
      subst hc6
      refine hp6.storeK (hW8.kd k10) ?_ fun H11 k11 => ?_
      · have h0 : ∀ x : Int, IntKind.u8.wrap (IntKind.u8.wrap x) = IntKind.u8.wrap x := fun x => by
          simp only [IntKind.wrap, IntKind.bits, IntKind.signed]; simp
        exact h0 _
      try simp only [sv_cons, sv_cons1, sc_cons, sc_cons1, asB_bool, ifB_true, ifB_false, un_not, bin_lss, bin_leq, bin_gtr, bin_geq, bin_eql, bin_neq, bin_add, bin_sub, bin_mul, ok_int, ok_bool, ok_slice, ok_str, ok_ptr, ok_map, ok_func, ok_iface, ok_nil, List.all_cons, List.all_nil, Bool.and_true, Bool.true_and, seg, setSeg, List.drop_succ_cons, List.drop_zero, List.take_succ_cons, List.take_zero, List.cons_append, List.nil_append, List.append_nil, List.length_cons, List.length_nil, List.drop_nil, List.size_toArray, Nat.reduceAdd, Nat.reduceLeDiff, Nat.reduceBEq, Nat.zero_add, Nat.le_refl, decide_true, mkV, List.headD_cons, cellsV, w_fldV, w_ext, w_fldP, List.getElem?_toArray, List.getElem?_cons_zero, List.getElem?_cons_succ, beq_self_eq_true, selV]
      rw [wrap_i64 (by unfold i64; omega)]
      exact hK10 _ _ (by omega) ⟨k10.trans k11, by simp⟩
    · try simp only [sv_cons, sv_cons1, sc_cons, sc_cons1, asB_bool, ifB_true, ifB_false, un_not, bin_lss, bin_leq, bin_gtr, bin_geq, bin_eql, bin_neq, bin_add, bin_sub, bin_mul, ok_int, ok_bool, ok_slice, ok_str, ok_ptr, ok_map, ok_func, ok_iface, ok_nil, List.all_cons, List.all_nil, Bool.and_true, Bool.true_and, seg, setSeg, List.drop_succ_cons, List.drop_zero, List.take_succ_cons, List.take_zero, List.cons_append, List.nil_append, List.append_nil, List.length_cons, List.length_nil, List.drop_nil, List.size_toArray, Nat.reduceAdd, Nat.reduceLeDiff, Nat.reduceBEq, Nat.zero_add, Nat.le_refl, decide_true, mkV, List.headD_cons, cellsV, w_fldV, w_ext, w_fldP, List.getElem?_toArray, List.getElem?_cons_zero, List.getElem?_cons_succ, beq_self_eq_true, selV]
      rw [wrap_i64 (by unfold i64; omega)]
      exact hK9 _ _ htl ⟨k10, by simp⟩
  · have hz58 := g6.size
    have hwo := hwo.up k9.fr fun y hy _ => ⟨fun h => by rw [← hA] at h; omega, hy⟩
    have hao := hao.up k9.fr fun y hy _ => ⟨fun h => by rw [← hA] at h; omega, hy⟩
    have hc9 := (hc.g g18).up k9.fr fun y hy _ => ⟨fun h => by rw [← hA] at h; omega, hy⟩
    have ha9 := (ha.g g18).up k9.fr fun y hy _ => ⟨fun h => by rw [← hA] at h; omega, hy⟩
    have g19 : G H H9 := g18.then k9.fr fun y hy => fun h => by rw [← hA] at h; omega
    refine join_of (fun s H' => s = [[.bool true]] ∧ H' = H9) (fun K hK => ?_) (fun s H' h => by obtain ⟨rfl, rfl⟩ := h; exact hQ _ g19)
    try simp only [sv_cons, sv_cons1, sc_cons, sc_cons1, asB_bool, ifB_true, ifB_false, un_not, bin_lss, bin_leq, bin_gtr, bin_geq, bin_eql, bin_neq, bin_add, bin_sub, bin_mul, ok_int, ok_bool, ok_slice, ok_str, ok_ptr, ok_map, ok_func, ok_iface, ok_nil, List.all_cons, List.all_nil, Bool.and_true, Bool.true_and, seg, setSeg, List.drop_succ_cons, List.drop_zero, List.take_succ_cons, List.take_zero, List.cons_append, List.nil_append, List.append_nil, List.length_cons, List.length_nil, List.drop_nil, List.size_toArray, Nat.reduceAdd, Nat.reduceLeDiff, Nat.reduceBEq, Nat.zero_add, Nat.le_refl, decide_true, mkV, List.headD_cons, cellsV, w_fldV, w_ext, w_fldP, List.getElem?_toArray, List.getElem?_cons_zero, List.getElem?_cons_succ, beq_self_eq_true, selV]
    refine c_ref22_SameLanes hwo hc9 (by omega) (fun x hx => by have := f2 x hx; omega) ?_
    rw [decide_eq_true rfl]
    try simp only [sv_cons, sv_cons1, sc_cons, sc_cons1, asB_bool, ifB_true, ifB_false, un_not, bin_lss, bin_leq, bin_gtr, bin_geq, bin_eql, bin_neq, bin_add, bin_sub, bin_mul, ok_int, ok_bool, ok_slice, ok_str, ok_ptr, ok_map, ok_func, ok_iface, ok_nil, List.all_cons, List.all_nil, Bool.and_true, Bool.true_and, seg, setSeg, List.drop_succ_cons, List.drop_zero, List.take_succ_cons, List.take_zero, List.cons_append, List.nil_append, List.append_nil, List.length_cons, List.length_nil, List.drop_nil, List.size_toArray, Nat.reduceAdd, Nat.reduceLeDiff, Nat.reduceBEq, Nat.zero_add, Nat.le_refl, decide_true, mkV, List.headD_cons, cellsV, w_fldV, w_ext, w_fldP, List.getElem?_toArray, List.getElem?_cons_zero, List.getElem?_cons_succ, beq_self_eq_true, selV]
    refine c_ref01_SameAll hao ha9 (by omega) ?_
    rw [decide_eq_true rfl]
    exact hK _ _ ⟨rfl, rfl⟩

end Go.Proofs.Ytlalkgkicccjiaa
