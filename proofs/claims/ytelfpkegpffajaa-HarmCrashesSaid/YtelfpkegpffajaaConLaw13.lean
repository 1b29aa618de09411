/- Contracts: the statements of chapter 13. -/
import Derived.Test.YtelfpkegpffajaaConRef13
import Derived.Test.YtelfpkegpffajaaShLaw13
namespace Go.Proofs.Ytelfpkegpffajaa
open Go.Ab Go.Md
set_option linter.unusedVariables false
set_option linter.unusedSimpArgs false
set_option maxRecDepth 20000

variable {H : Heap} {Q : Value → Heap → Prop} {A B C : Nat → Prop}

theorem c_law13_spoil {O F : Nat → Prop} {v : Value} {d : Dv} (h : DvO H O F v d) (hd : Mid d) (hQ : ∀ H', Fr (fun y => ¬ F y) H H' → Q (.tuple #[]) H') : callV Try.prog (fnV fn_law13_spoil) [.agg #[v]] H Q := by
  apply S_law13_spoil_of
  unfold S_law13_spoil
  refine newT_of fun H1 g1 _ => ?_
  obtain ⟨⟨vss, h1, h2⟩, h3⟩ := h.g g1
  obtain ⟨vs, hv, hvs⟩ := h1.sl
  have hd1 := hd.1
  have len1 : vs.length = d.length := hvs.1.trans h2.1
  have out : ∀ {H' : Heap}, Wr F H1 H' → Sl rV H' O v vs := fun hw => hv.up hw.fr fun y hy _ => ⟨fun hF => h3 y hy hF, hy⟩
  refine loop_up d.length (fun i s H' => Wr F H1 H' ∧ s = [[.int .i64 (i : Int)]]) ⟨Wr.refl _ _, rfl⟩ ?_
  rintro i s H2 K hi ⟨hw, rfl⟩ hK
  refine (out hw).len ?_
  try simp only [sv_cons, sv_cons1, sc_cons, sc_cons1, asB_bool, ifB_true, ifB_false, un_not, bin_lss, bin_leq, bin_gtr, bin_geq, bin_eql, bin_neq, bin_add, bin_sub, bin_mul, ok_int, ok_bool, ok_slice, ok_str, ok_ptr, ok_map, ok_func, ok_iface, ok_nil, List.all_cons, List.all_nil, Bool.and_true, Bool.true_and, seg, setSeg, List.drop_succ_cons, List.drop_zero, List.take_succ_cons, List.take_zero, List.cons_append, List.nil_append, List.append_nil, List.length_cons, List.length_nil, List.drop_nil, List.size_toArray, Nat.reduceAdd, Nat.reduceLeDiff, Nat.reduceBEq, Nat.zero_add, Nat.le_refl, decide_true, mkV, List.headD_cons, cellsV, w_fldV, w_ext, w_fldP, List.getElem?_toArray, List.getElem?_cons_zero, List.getElem?_cons_succ, beq_self_eq_true, selV]
  refine ifD_of (fun c1 => ?_) (fun c1 => ?_)
  · have hlt : i < d.length := by omega
    obtain ⟨ws, hws, hl⟩ := h2.get (List.getElem?_eq_getElem hlt)
    obtain ⟨u, hu, hsu⟩ := hvs.get hws
    have hxs := hd.2 _ (List.getElem_mem hlt)
    generalize d[i] = xs at *
    have inn : ∀ {H' : Heap}, Wr F H1 H' → Sl rV H' O u ws := fun hw => hsu.up hw.fr fun y hy _ => ⟨fun hF => h3 y hy hF, hy⟩
    refine loop_up xs.length (fun k s H' => Wr F H1 H' ∧ s = [[.int .i64 (k : Int)]]) ⟨hw, rfl⟩ ?_
    rintro k s H3 K2 hk ⟨hw, rfl⟩ hK2
    refine (out hw).getV hu ((inn hw).len ?_)
    try simp only [sv_cons, sv_cons1, sc_cons, sc_cons1, asB_bool, ifB_true, ifB_false, un_not, bin_lss, bin_leq, bin_gtr, bin_geq, bin_eql, bin_neq, bin_add, bin_sub, bin_mul, ok_int, ok_bool, ok_slice, ok_str, ok_ptr, ok_map, ok_func, ok_iface, ok_nil, List.all_cons, List.all_nil, Bool.and_true, Bool.true_and, seg, setSeg, List.drop_succ_cons, List.drop_zero, List.take_succ_cons, List.take_zero, List.cons_append, List.nil_append, List.append_nil, List.length_cons, List.length_nil, List.drop_nil, List.size_toArray, Nat.reduceAdd, Nat.reduceLeDiff, Nat.reduceBEq, Nat.zero_add, Nat.le_refl, decide_true, mkV, List.headD_cons, cellsV, w_fldV, w_ext, w_fldP, List.getElem?_toArray, List.getElem?_cons_zero, List.getElem?_cons_succ, beq_self_eq_true, selV]
    have len2 := hl.1
    refine ifD_of (fun c2 => ?_) (fun c2 => ?_)
    · have hlt2 : k < xs.length := by omega
      obtain ⟨x, hx, hlf⟩ := hl.get (List.getElem?_eq_getElem hlt2)
      have hbl := hxs.2 _ (List.getElem_mem hlt2)
      generalize xs[k] = bs at *
      refine loop_up bs.length (fun n s H' => Wr F H1 H' ∧ s = [[.int .i64 (n : Int)]]) ⟨hw, rfl⟩ ?_
      rintro n s H4 K3 hn ⟨hw, rfl⟩ hK3
      have hwb := hlf.2.wr hw
      refine (out hw).getV hu ((inn hw).getV hx (hwb.len ?_))
      try simp only [sv_cons, sv_cons1, sc_cons, sc_cons1, asB_bool, ifB_true, ifB_false, un_not, bin_lss, bin_leq, bin_gtr, bin_geq, bin_eql, bin_neq, bin_add, bin_sub, bin_mul, ok_int, ok_bool, ok_slice, ok_str, ok_ptr, ok_map, ok_func, ok_iface, ok_nil, List.all_cons, List.all_nil, Bool.and_true, Bool.true_and, seg, setSeg, List.drop_succ_cons, List.drop_zero, List.take_succ_cons, List.take_zero, List.cons_append, List.nil_append, List.append_nil, List.length_cons, List.length_nil, List.drop_nil, List.size_toArray, Nat.reduceAdd, Nat.reduceLeDiff, Nat.reduceBEq, Nat.zero_add, Nat.le_refl, decide_true, mkV, List.headD_cons, cellsV, w_fldV, w_ext, w_fldP, List.getElem?_toArray, List.getElem?_cons_zero, List.getElem?_cons_succ, beq_self_eq_true, selV]
      refine ifD_of (fun c3 => ?_) (fun c3 => ?_)
      · refine (out hw).getV hu ((inn hw).getV hx ?_)
        refine (out hw).getV hu ((inn hw).getV hx (hwb.get (by omega) fun z => ?_))
        try simp only [sv_cons, sv_cons1, sc_cons, sc_cons1, asB_bool, ifB_true, ifB_false, un_not, bin_lss, bin_leq, bin_gtr, bin_geq, bin_eql, bin_neq, bin_add, bin_sub, bin_mul, ok_int, ok_bool, ok_slice, ok_str, ok_ptr, ok_map, ok_func, ok_iface, ok_nil, List.all_cons, List.all_nil, Bool.and_true, Bool.true_and, seg, setSeg, List.drop_succ_cons, List.drop_zero, List.take_succ_cons, List.take_zero, List.cons_append, List.nil_append, List.append_nil, List.length_cons, List.length_nil, List.drop_nil, List.size_toArray, Nat.reduceAdd, Nat.reduceLeDiff, Nat.reduceBEq, Nat.zero_add, Nat.le_refl, decide_true, mkV, List.headD_cons, cellsV, w_fldV, w_ext, w_fldP, List.getElem?_toArray, List.getElem?_cons_zero, List.getElem?_cons_succ, beq_self_eq_true, selV]
        refine hwb.put (by omega) fun H5 hw5 => ?_
        try simp only [sv_cons, sv_cons1, sc_cons, sc_cons1, asB_bool, ifB_true, ifB_false, un_not, bin_lss, bin_leq, bin_gtr, bin_geq, bin_eql, bin_neq, bin_add, bin_sub, bin_mul, ok_int, ok_bool, ok_slice, ok_str, ok_ptr, ok_map, ok_func, ok_iface, ok_nil, List.all_cons, List.all_nil, Bool.and_true, Bool.true_and, seg, setSeg, List.drop_succ_cons, List.drop_zero, List.take_succ_cons, List.take_zero, List.cons_append, List.nil_append, List.append_nil, List.length_cons, List.length_nil, List.drop_nil, List.size_toArray, Nat.reduceAdd, Nat.reduceLeDiff, Nat.reduceBEq, Nat.zero_add, Nat.le_refl, decide_true, mkV, List.headD_cons, cellsV, w_fldV, w_ext, w_fldP, List.getElem?_toArray, List.getElem?_cons_zero, List.getElem?_cons_succ, beq_self_eq_true, selV]
        rw [wrap_i64 (by unfold i64; omega)]
        exact hK3 _ _ (by omega) ⟨hw.trans hw5, by simp⟩
      · rw [wrap_i64 (by unfold i64; omega)]
        exact hK2 _ _ (by omega) ⟨hw, by simp⟩
    · rw [wrap_i64 (by unfold i64; omega)]
      exact hK _ _ (by omega) ⟨hw, by simp⟩
  · exact hQ H2 (Fr.trans g1 hw.fr fun y _ hy => ⟨trivial, hy⟩)

theorem mid_put {d : Dv} (hd : Mid d) {level b : Int} {x : By} (hx : x.length ≤ 1000000) : Mid (putB d level b x) := by
  refine ⟨by rw [len_put]; exact hd.1, fun y hy => ?_⟩
  unfold putB at hy
  rcases List.mem_or_eq_of_mem_set hy with h | rfl
  · exact hd.2 y h
  · refine ⟨by simp; exact mid_len hd, fun b hb => ?_⟩
    rcases List.mem_or_eq_of_mem_set hb with h | rfl
    · unfold lvlOf at h
      rw [List.getD_eq_getElem?_getD] at h
      cases hl : d[level.toNat]? with
      | none => rw [hl] at h; simp at h
      | some z => rw [hl] at h; exact (hd.2 z (List.mem_of_getElem? hl)).2 b h
    · exact hx
theorem mid_behind : ∀ {ss : List See} {d : Dv}, Mid d → (∀ s ∈ ss, s.bytes.length ≤ 1000000) → Mid (behind d ss)
  | [], d, hd, _ => hd
  | s :: ss, d, hd, hs => by
    show Mid (behind (behind1 d s) ss)
    refine mid_behind ?_ fun s' h => hs s' (by simp [h])
    unfold behind1
    split
    · exact mid_put hd (hs s (by simp))
    · exact hd
theorem mid_putAll {level : Int} : ∀ {l : List Int} {all : List By} {d : Dv}, Mid d → (∀ x ∈ all, x.length ≤ 1000000) → Mid (putAll d level l all)
  | [], [], d, hd, _ => hd
  | [], _ :: _, d, hd, _ => hd
  | _ :: _, [], d, hd, _ => hd
  | b :: l, x :: all, d, hd, hx => by
    show Mid (putAll (putB d level b x) level l all)
    exact mid_putAll (mid_put hd (hx x (by simp))) fun y hy => hx y (by simp [hy])
theorem mid_nil : Mid [] := ⟨by simp, by simp⟩
theorem mid_rep {c : Cfg} {d : Dv} {ss : List See} (hd : Mid d) : Mid (if repE c d ss = 0 then behind d ss else []) := by
  split
  · rename_i h
    refine mid_behind hd fun s hs => ?_
    unfold repE at h
    split at h
    · split at h
      · rename_i hall; exact seeOk_len hd (List.all_eq_true.1 hall s hs)
      · cases h
    · cases h
  · exact mid_nil

theorem spoil_loopL {O F : Nat → Prop} {v : Value} {ws : List Value} {xs : List By} {k : Heap → Prop} (hv : Sl rV H O v ws) (hl : All2 (Lf H F) ws xs) (hO : ∀ y, O y → ¬ F y) (hn : xs.length ≤ 1000000) (hb : ∀ x ∈ xs, x.length ≤ 140737488355328) (hk : ∀ H', Wr F H H' → k H') :
    LoopPT (fun s39 H K39 =>
      lenSl v H fun t112 =>
      binV (.int .i64) .lss (sv s39 0) t112 fun t113 =>
      asB t113 fun b113 =>
      ifB b113 (
      LoopPT (fun s48 H K48 =>
      idxS 1 v (sv s39 0) fun t119 =>
      loadP false 1 t119 H fun t120 =>
      lenSl t120 H fun t121 =>
      binV (.int .i64) .lss (sv s48 0) t121 fun t122 =>
      asB t122 fun b122 =>
      ifB b122 (
      idxS 1 v (sv s39 0) fun t127 =>
      loadP false 1 t127 H fun t128 =>
      idxS 1 v (sv s39 0) fun t132 =>
      loadP false 1 t132 H fun t133 =>
      idxS 1 t133 (sv s48 0) fun t135 =>
      loadP false 1 t135 H fun t136 =>
      binV (.int .u8) .add t136 (.int .u8 1) fun t137 =>
      idxS 1 t128 (sv s48 0) fun t138 =>
      storeP false 1 t138 t137 H fun H =>
      binV (.int .i64) .add (sv s48 0) (.int .i64 1) fun t124 =>
      K48 [[t124]] H) (
      binV (.int .i64) .add (sv s39 0) (.int .i64 1) fun t115 =>
      K39 [[t115]] H)) [[(.int .i64 0)]] H) (k H)) [[(.int .i64 0)]] H := by
  have out : ∀ {H' : Heap}, Wr F H H' → Sl rV H' O v ws := fun hw => hv.up hw.fr fun y hy _ => ⟨hO y hy, hy⟩
  have len := hl.1
  refine loop_up xs.length (fun i s H' => Wr F H H' ∧ s = [[.int .i64 (i : Int)]]) ⟨Wr.refl _ _, rfl⟩ ?_
  rintro i s H2 K hi ⟨hw, rfl⟩ hK
  refine (out hw).len ?_
  try simp only [sv_cons, sv_cons1, sc_cons, sc_cons1, asB_bool, ifB_true, ifB_false, un_not, bin_lss, bin_leq, bin_gtr, bin_geq, bin_eql, bin_neq, bin_add, bin_sub, bin_mul, ok_int, ok_bool, ok_slice, ok_str, ok_ptr, ok_map, ok_func, ok_iface, ok_nil, List.all_cons, List.all_nil, Bool.and_true, Bool.true_and, seg, setSeg, List.drop_succ_cons, List.drop_zero, List.take_succ_cons, List.take_zero, List.cons_append, List.nil_append, List.append_nil, List.length_cons, List.length_nil, List.drop_nil, List.size_toArray, Nat.reduceAdd, Nat.reduceLeDiff, Nat.reduceBEq, Nat.zero_add, Nat.le_refl, decide_true, mkV, List.headD_cons, cellsV, w_fldV, w_ext, w_fldP, List.getElem?_toArray, List.getElem?_cons_zero, List.getElem?_cons_succ, beq_self_eq_true, selV]
  refine ifD_of (fun c1 => ?_) (fun c1 => hk _ hw)
  have hlt : i < xs.length := by omega
  obtain ⟨u, hu, hlf⟩ := hl.get (List.getElem?_eq_getElem hlt)
  have hbl := hb _ (List.getElem_mem hlt)
  generalize xs[i] = bs at *
  refine loop_up bs.length (fun n s H' => Wr F H H' ∧ s = [[.int .i64 (n : Int)]]) ⟨hw, rfl⟩ ?_
  rintro n s H4 K3 hn ⟨hw, rfl⟩ hK3
  have hwb := hlf.2.wr hw
  refine (out hw).getV hu (hwb.len ?_)
  try simp only [sv_cons, sv_cons1, sc_cons, sc_cons1, asB_bool, ifB_true, ifB_false, un_not, bin_lss, bin_leq, bin_gtr, bin_geq, bin_eql, bin_neq, bin_add, bin_sub, bin_mul, ok_int, ok_bool, ok_slice, ok_str, ok_ptr, ok_map, ok_func, ok_iface, ok_nil, List.all_cons, List.all_nil, Bool.and_true, Bool.true_and, seg, setSeg, List.drop_succ_cons, List.drop_zero, List.take_succ_cons, List.take_zero, List.cons_append, List.nil_append, List.append_nil, List.length_cons, List.length_nil, List.drop_nil, List.size_toArray, Nat.reduceAdd, Nat.reduceLeDiff, Nat.reduceBEq, Nat.zero_add, Nat.le_refl, decide_true, mkV, List.headD_cons, cellsV, w_fldV, w_ext, w_fldP, List.getElem?_toArray, List.getElem?_cons_zero, List.getElem?_cons_succ, beq_self_eq_true, selV]
  refine ifD_of (fun c3 => ?_) (fun c3 => ?_)
  · refine (out hw).getV hu ((out hw).getV hu (hwb.get (by omega) fun z => ?_))
    try simp only [sv_cons, sv_cons1, sc_cons, sc_cons1, asB_bool, ifB_true, ifB_false, un_not, bin_lss, bin_leq, bin_gtr, bin_geq, bin_eql, bin_neq, bin_add, bin_sub, bin_mul, ok_int, ok_bool, ok_slice, ok_str, ok_ptr, ok_map, ok_func, ok_iface, ok_nil, List.all_cons, List.all_nil, Bool.and_true, Bool.true_and, seg, setSeg, List.drop_succ_cons, List.drop_zero, List.take_succ_cons, List.take_zero, List.cons_append, List.nil_append, List.append_nil, List.length_cons, List.length_nil, List.drop_nil, List.size_toArray, Nat.reduceAdd, Nat.reduceLeDiff, Nat.reduceBEq, Nat.zero_add, Nat.le_refl, decide_true, mkV, List.headD_cons, cellsV, w_fldV, w_ext, w_fldP, List.getElem?_toArray, List.getElem?_cons_zero, List.getElem?_cons_succ, beq_self_eq_true, selV]
    refine hwb.put (by omega) fun H5 hw5 => ?_
    try simp only [sv_cons, sv_cons1, sc_cons, sc_cons1, asB_bool, ifB_true, ifB_false, un_not, bin_lss, bin_leq, bin_gtr, bin_geq, bin_eql, bin_neq, bin_add, bin_sub, bin_mul, ok_int, ok_bool, ok_slice, ok_str, ok_ptr, ok_map, ok_func, ok_iface, ok_nil, List.all_cons, List.all_nil, Bool.and_true, Bool.true_and, seg, setSeg, List.drop_succ_cons, List.drop_zero, List.take_succ_cons, List.take_zero, List.cons_append, List.nil_append, List.append_nil, List.length_cons, List.length_nil, List.drop_nil, List.size_toArray, Nat.reduceAdd, Nat.reduceLeDiff, Nat.reduceBEq, Nat.zero_add, Nat.le_refl, decide_true, mkV, List.headD_cons, cellsV, w_fldV, w_ext, w_fldP, List.getElem?_toArray, List.getElem?_cons_zero, List.getElem?_cons_succ, beq_self_eq_true, selV]
    rw [wrap_i64 (by unfold i64; omega)]
    exact hK3 _ _ (by omega) ⟨hw.trans hw5, by simp⟩
  · rw [wrap_i64 (by unfold i64; omega)]
    exact hK _ _ (by omega) ⟨hw, by simp⟩


theorem mid_doD {c : Cfg} {d : Dv} {l : List See} {h : Hm} (hd : Mid d) : Mid (doD c d l h) := by
  unfold doD
  split
  · rename_i he
    have hr : repE c d l = 0 := by
      unfold doE at he
      split at he
      · omega
      · rename_i hn; exact Decidable.not_not.1 hn
    obtain ⟨hmay, hok⟩ := rep_zero hr
    have hby : ∀ s ∈ l, s.bytes.length ≤ 1000000 := fun s hm => seeOk_len hd (hok s hm)
    have hbk : ∀ level b, (bk d level b).length ≤ 1000000 := fun level b => by
      unfold bk lvlOf
      rw [List.getD_eq_getElem?_getD, List.getD_eq_getElem?_getD]
      cases hl : d[level.toNat]? with
      | none => simp
      | some z =>
        simp only [Option.getD_some]
        cases hb : z[(b - 1).toNat]? with
        | none => simp
        | some w => exact (hd.2 z (List.mem_of_getElem? hl)).2 w (List.mem_of_getElem? hb)
    have hvb : ∀ level b i, ((versL l level b).getD i []).length ≤ 1000000 := fun level b i => by
      rw [List.getD_eq_getElem?_getD]
      cases hx : (versL l level b)[i]? with
      | none => simp
      | some x =>
        obtain ⟨s, hs, rfl⟩ := versL_mem (List.mem_of_getElem? hx)
        exact hby s hs
    unfold doneH
    split
    · exact mid_behind (mid_blank' (may_may hmay)) fun s hs => hby s (firstW_sub s hs)
    split
    · exact mid_put hd (by unfold flipAt; rw [List.length_set]; exact hbk _ _)
    split
    · exact mid_put (mid_put hd (hbk _ _)) (hbk _ _)
    split
    · exact mid_put hd (hvb _ _ _)
    · refine mid_put hd ?_
      unfold dropTo
      split
      · exact hvb _ _ _
      · rw [List.length_replicate]; exact hbk _ _
  · exact mid_nil

/-- An input that is a list of what is seen. -/
structure SeesIn (ss : List See) : Prop where
  by_ : ∀ s ∈ ss, s.bytes.length ≤ 140737488355328
  r64 : ∀ s ∈ ss, i64 s.bucket

theorem c_HarmDoes {c : Cfg} {a l : Value} {d : Dv} {ss : List See} {h : Hm} (ha : Sl rBys H A a d) (hl : Sl rSee H B l ss) (hs : SeesIn ss) (hh : h.ok) (hQ : ∀ H', G H H' → Q (.bool true) H') :
    callV Try.prog (fnV fn_law13_HarmDoes) [.agg (cCfg c).toArray, .agg #[a], l, .agg (cHm h).toArray] H Q := by
  apply S_law13_HarmDoes_of
  unfold S_law13_HarmDoes
  have ha := ha.old
  have hl := hl.old
  refine newT_of fun H1 g1 s1 => newT_of fun H2 g2 s2 => newT_of fun H2' g2' s2' => ?_
  have gg := (g1.trans g2).trans g2'
  refine join_of (fun s H' => G H H' ∧ ∃ b, s = [[.bool b]] ∧ (b = false → Small d ∧ ss.length ≤ 2000)) (fun K hK => ?_) ?_
  · refine c_ref12_Great (ha.g gg) fun b H3 hb g3 => ?_
    have g := gg.trans g3
    cases b with
    | true => exact hK _ _ ⟨g, true, rfl, fun h => by cases h⟩
    | false => exact c_ref12_GreatSees (hl.g g) fun b2 hb2 => hK _ _ ⟨g, b2, rfl, fun h => ⟨hb rfl, hb2 h⟩⟩
  rintro s H3 ⟨g, b, rfl, hsm⟩
  cases b with
  | true => exact hQ _ g
  | false =>
    obtain ⟨hsmall, hsl⟩ := hsm rfl
    have hmid := hsmall.mid
    refine c_ref12_Twin (ha.g g) hmid fun own H4 hown => ?_
    have g4 := hown.g
    obtain ⟨O0, F0, hdo, hOF⟩ := hown.out
    have hown := (hdo.sl (A := fun _ => True) fun _ _ => trivial).old
    refine c_ref12_TwinSees (hl.g (g.trans g4)) (by omega) hs.by_ fun mine H5 hmine g5 => newT_of fun H6 g6 s6 => ?_
    have hmine := hmine.old
    have hok1 := hown.okcv
    try simp only [sv_cons, sv_cons1, sc_cons, sc_cons1, asB_bool, ifB_true, ifB_false, un_not, bin_lss, bin_leq, bin_gtr, bin_geq, bin_eql, bin_neq, bin_add, bin_sub, bin_mul, ok_int, ok_bool, ok_slice, ok_str, ok_ptr, ok_map, ok_func, ok_iface, ok_nil, List.all_cons, List.all_nil, Bool.and_true, Bool.true_and, seg, setSeg, List.drop_succ_cons, List.drop_zero, List.take_succ_cons, List.take_zero, List.cons_append, List.nil_append, List.append_nil, List.length_cons, List.length_nil, List.drop_nil, List.size_toArray, Nat.reduceAdd, Nat.reduceLeDiff, Nat.reduceBEq, Nat.zero_add, Nat.le_refl, decide_true, mkV, List.headD_cons, cellsV, w_fldV, w_ext, w_fldP, List.getElem?_toArray, List.getElem?_cons_zero, List.getElem?_cons_succ, beq_self_eq_true, selV, hok1]
    have gA := ((g.trans g4).trans g5).trans g6
    refine c_harm_Do (hown.g (g5.trans g6)) (hmine.g g6) hmid ⟨by omega, hs.r64⟩ (by omega) hh fun x O F H7 hx g7 => ?_
    have hok2 := hx.dv.okcv
    try simp only [sv_cons, sv_cons1, sc_cons, sc_cons1, asB_bool, ifB_true, ifB_false, un_not, bin_lss, bin_leq, bin_gtr, bin_geq, bin_eql, bin_neq, bin_add, bin_sub, bin_mul, ok_int, ok_bool, ok_slice, ok_str, ok_ptr, ok_map, ok_func, ok_iface, ok_nil, List.all_cons, List.all_nil, Bool.and_true, Bool.true_and, seg, setSeg, List.drop_succ_cons, List.drop_zero, List.take_succ_cons, List.take_zero, List.cons_append, List.nil_append, List.append_nil, List.length_cons, List.length_nil, List.drop_nil, List.size_toArray, Nat.reduceAdd, Nat.reduceLeDiff, Nat.reduceBEq, Nat.zero_add, Nat.le_refl, decide_true, mkV, List.headD_cons, cellsV, w_fldV, w_ext, w_fldP, List.getElem?_toArray, List.getElem?_cons_zero, List.getElem?_cons_succ, beq_self_eq_true, selV, hok2]
    refine newT_of fun H8 g8 s8 => ?_
    have gB := (gA.trans g7).trans g8
    refine c_ref13_Do (ha.g gB) (hl.g gB) (by omega) ⟨by omega, hs.r64⟩ hh hmid fun y H9 hy g9 => ?_
    have hok3 := hy.okcv
    try simp only [sv_cons, sv_cons1, sc_cons, sc_cons1, asB_bool, ifB_true, ifB_false, un_not, bin_lss, bin_leq, bin_gtr, bin_geq, bin_eql, bin_neq, bin_add, bin_sub, bin_mul, ok_int, ok_bool, ok_slice, ok_str, ok_ptr, ok_map, ok_func, ok_iface, ok_nil, List.all_cons, List.all_nil, Bool.and_true, Bool.true_and, seg, setSeg, List.drop_succ_cons, List.drop_zero, List.take_succ_cons, List.take_zero, List.cons_append, List.nil_append, List.append_nil, List.length_cons, List.length_nil, List.drop_nil, List.size_toArray, Nat.reduceAdd, Nat.reduceLeDiff, Nat.reduceBEq, Nat.zero_add, Nat.le_refl, decide_true, mkV, List.headD_cons, cellsV, w_fldV, w_ext, w_fldP, List.getElem?_toArray, List.getElem?_cons_zero, List.getElem?_cons_succ, beq_self_eq_true, selV, hok3]
    refine newT_of fun H10 g10 s10 => ?_
    have gB := (gB.trans g9).trans g10
    have g67 := ((g7.trans g8).trans g9).trans g10
    refine c_harm_Versions (hmine.g (g6.trans g67)) (by omega) hs.by_ fun w b1 ws F1 H11 hcl => ?_
    have g11 := hcl.g
    have gx : G H7 H11 := ((g8.trans g9).trans g10).trans g11
    have hbmid := mid_doD (c := c) (l := ss) (h := h) hmid
    have hvl := versL_len (l := ss) (level := h.level) (b := h.a)
    have hvb : ∀ x ∈ versL ss h.level h.a, x.length ≤ 140737488355328 := fun x hx => by
      obtain ⟨s, hs', rfl⟩ := versL_mem hx
      exact hs.by_ s hs'
    have hwsl : Sl rBy H11 (fun y => H10.size ≤ y) w (versL ss h.level h.a) := by
      have := (hcl.own.slF (A' := fun y => H10.size ≤ y) fun k hk => by have := hcl.fresh; omega).join (B := F1) (hcl.leaves.imp fun u x hl => hl.1)
      exact this.mono fun y hy _ => hy.elim id fun hF => (hcl.freshF y hF).1
    refine join_of (fun s H' => G H11 H' ∧ s = [[.bool true]]) (fun K hK => ?_) ?_
    · refine c_ref12_Same (hx.g gx).sl (hy.g (g10.trans g11)) (by have := hbmid.1; omega) (fun x hx => by have := (hbmid.2 x hx).1; omega) fun H12 g12 => ?_
      try rw [decide_eq_true rfl]
      try simp only [sv_cons, sv_cons1, sc_cons, sc_cons1, asB_bool, ifB_true, ifB_false, un_not, bin_lss, bin_leq, bin_gtr, bin_geq, bin_eql, bin_neq, bin_add, bin_sub, bin_mul, ok_int, ok_bool, ok_slice, ok_str, ok_ptr, ok_map, ok_func, ok_iface, ok_nil, List.all_cons, List.all_nil, Bool.and_true, Bool.true_and, seg, setSeg, List.drop_succ_cons, List.drop_zero, List.take_succ_cons, List.take_zero, List.cons_append, List.nil_append, List.append_nil, List.length_cons, List.length_nil, List.drop_nil, List.size_toArray, Nat.reduceAdd, Nat.reduceLeDiff, Nat.reduceBEq, Nat.zero_add, Nat.le_refl, decide_true, mkV, List.headD_cons, cellsV, w_fldV, w_ext, w_fldP, List.getElem?_toArray, List.getElem?_cons_zero, List.getElem?_cons_succ, beq_self_eq_true, selV]
      try rw [decide_eq_true rfl]
      try simp only [sv_cons, sv_cons1, sc_cons, sc_cons1, asB_bool, ifB_true, ifB_false, un_not, bin_lss, bin_leq, bin_gtr, bin_geq, bin_eql, bin_neq, bin_add, bin_sub, bin_mul, ok_int, ok_bool, ok_slice, ok_str, ok_ptr, ok_map, ok_func, ok_iface, ok_nil, List.all_cons, List.all_nil, Bool.and_true, Bool.true_and, seg, setSeg, List.drop_succ_cons, List.drop_zero, List.take_succ_cons, List.take_zero, List.cons_append, List.nil_append, List.append_nil, List.length_cons, List.length_nil, List.drop_nil, List.size_toArray, Nat.reduceAdd, Nat.reduceLeDiff, Nat.reduceBEq, Nat.zero_add, Nat.le_refl, decide_true, mkV, List.headD_cons, cellsV, w_fldV, w_ext, w_fldP, List.getElem?_toArray, List.getElem?_cons_zero, List.getElem?_cons_succ, beq_self_eq_true, selV]
      refine c_ref13_Versions (hl.g ((gB.trans g11).trans g12)) (by omega) hs.by_ fun w2 b2 ws2 F2 H13 hcl2 => ?_
      have hw2 : Sl rBy H13 (fun y => H12.size ≤ y) w2 (versL ss h.level h.a) := by
        have := (hcl2.own.slF (A' := fun y => H12.size ≤ y) fun k hk => by have := hcl2.fresh; omega).join (B := F2) (hcl2.leaves.imp fun u x hl => hl.1)
        exact this.mono fun y hy _ => hy.elim id fun hF => (hcl2.freshF y hF).1
      refine c_ref01_SameAll (hwsl.g (g12.trans hcl2.g)) hw2 (by omega) ?_
      try rw [decide_eq_true rfl]
      exact hK _ _ ⟨g12.trans hcl2.g, rfl⟩
    rintro s H12 ⟨g12, rfl⟩
    refine c_law13_spoil ((hx.g gx).g g12).dv hbmid fun H13 f13 => ?_
    -- what was there before is there still
    have hxF : ∀ y, F y → H6.size ≤ y ∧ y < H7.size := fun y hF => hx.inO y (.inr hF)
    have hs7 := gx.size
    have hs8 := (g8.trans g9).trans g10 |>.size
    have fF1 : ∀ y, F1 y → ¬ F y := fun y h1 h2 => by have := (hcl.freshF y h1).1; have := (hxF y h2).2; omega
    have hown1 : Ow rV H13 b1 (fun _ => False) w ws := (hcl.own.g g12).upF f13 fun k hk => fun hF => by have := hcl.fresh; have := (hxF k hF).2; omega
    have hlv : All2 (Lf H13 F1) ws (versL ss h.level h.a) := hcl.leaves.imp fun u x hu => (hu.up g12 (F' := F1) fun y hy _ => ⟨trivial, hy⟩).up f13 fun y hy _ => ⟨fF1 y hy, hy⟩
    refine spoil_loopL (O := fun y => y + 1 = b1) (F := F1) (hown1.slF fun k hk => hk.symm) hlv (fun y hy hF => (hcl.freshF y hF).2.2 hy) (by omega) hvb fun H14 w14 => ?_
    have gy : G H6 H12 := (g7.trans gx).trans g12
    have keep : ∀ {Hk : Heap}, G Hk H6 → Fr (fun y => y < Hk.size) Hk H14 := fun {Hk} gk => Fr.trans (Fr.trans (gk.trans gy) f13 fun y _ (hy : y < Hk.size) => ⟨trivial, fun hF => by have := (hxF y hF).1; have := gk.size; omega⟩) w14.fr fun y _ (hy : y < Hk.size) => ⟨hy, fun hF => by have := (hcl.freshF y hF).1; have := gk.size; have := g67.size; omega⟩
    have k0 : Fr (fun y => y < H.size) H H14 := keep gA
    have gz : G H H14 := k0.g fun y hy => hy
    try simp only [sv_cons, sv_cons1, sc_cons, sc_cons1, asB_bool, ifB_true, ifB_false, un_not, bin_lss, bin_leq, bin_gtr, bin_geq, bin_eql, bin_neq, bin_add, bin_sub, bin_mul, ok_int, ok_bool, ok_slice, ok_str, ok_ptr, ok_map, ok_func, ok_iface, ok_nil, List.all_cons, List.all_nil, Bool.and_true, Bool.true_and, seg, setSeg, List.drop_succ_cons, List.drop_zero, List.take_succ_cons, List.take_zero, List.cons_append, List.nil_append, List.append_nil, List.length_cons, List.length_nil, List.drop_nil, List.size_toArray, Nat.reduceAdd, Nat.reduceLeDiff, Nat.reduceBEq, Nat.zero_add, Nat.le_refl, decide_true, mkV, List.headD_cons, cellsV, w_fldV, w_ext, w_fldP, List.getElem?_toArray, List.getElem?_cons_zero, List.getElem?_cons_succ, beq_self_eq_true, selV]
    refine join_of (fun s H' => G H14 H' ∧ s = [[.bool true]]) (fun K hK => ?_) ?_
    · try simp only [sv_cons, sv_cons1, sc_cons, sc_cons1, asB_bool, ifB_true, ifB_false, un_not, bin_lss, bin_leq, bin_gtr, bin_geq, bin_eql, bin_neq, bin_add, bin_sub, bin_mul, ok_int, ok_bool, ok_slice, ok_str, ok_ptr, ok_map, ok_func, ok_iface, ok_nil, List.all_cons, List.all_nil, Bool.and_true, Bool.true_and, seg, setSeg, List.drop_succ_cons, List.drop_zero, List.take_succ_cons, List.take_zero, List.cons_append, List.nil_append, List.append_nil, List.length_cons, List.length_nil, List.drop_nil, List.size_toArray, Nat.reduceAdd, Nat.reduceLeDiff, Nat.reduceBEq, Nat.zero_add, Nat.le_refl, decide_true, mkV, List.headD_cons, cellsV, w_fldV, w_ext, w_fldP, List.getElem?_toArray, List.getElem?_cons_zero, List.getElem?_cons_succ, beq_self_eq_true, selV]
      refine c_ref12_Same (hown.up (keep (g5.trans g6)) fun y hy _ => ⟨hy, hy⟩) (ha.up k0 fun y hy _ => ⟨hy, hy⟩) (by have := hmid.1; omega) (fun x hx => by have := (hmid.2 x hx).1; omega) fun H15 g15 => ?_
      try rw [decide_eq_true rfl]
      try simp only [sv_cons, sv_cons1, sc_cons, sc_cons1, asB_bool, ifB_true, ifB_false, un_not, bin_lss, bin_leq, bin_gtr, bin_geq, bin_eql, bin_neq, bin_add, bin_sub, bin_mul, ok_int, ok_bool, ok_slice, ok_str, ok_ptr, ok_map, ok_func, ok_iface, ok_nil, List.all_cons, List.all_nil, Bool.and_true, Bool.true_and, seg, setSeg, List.drop_succ_cons, List.drop_zero, List.take_succ_cons, List.take_zero, List.cons_append, List.nil_append, List.append_nil, List.length_cons, List.length_nil, List.drop_nil, List.size_toArray, Nat.reduceAdd, Nat.reduceLeDiff, Nat.reduceBEq, Nat.zero_add, Nat.le_refl, decide_true, mkV, List.headD_cons, cellsV, w_fldV, w_ext, w_fldP, List.getElem?_toArray, List.getElem?_cons_zero, List.getElem?_cons_succ, beq_self_eq_true, selV]
      refine c_ref12_SameSees ((hmine.up (keep g6) fun y hy _ => ⟨hy, hy⟩).g g15) ((hl.up k0 fun y hy _ => ⟨hy, hy⟩).g g15) (by omega) ?_
      try rw [decide_eq_true rfl]
      exact hK _ _ ⟨g15, rfl⟩
    rintro s H15 ⟨g15, rfl⟩
    try simp only [sv_cons, sv_cons1, sc_cons, sc_cons1, asB_bool, ifB_true, ifB_false, un_not, bin_lss, bin_leq, bin_gtr, bin_geq, bin_eql, bin_neq, bin_add, bin_sub, bin_mul, ok_int, ok_bool, ok_slice, ok_str, ok_ptr, ok_map, ok_func, ok_iface, ok_nil, List.all_cons, List.all_nil, Bool.and_true, Bool.true_and, seg, setSeg, List.drop_succ_cons, List.drop_zero, List.take_succ_cons, List.take_zero, List.cons_append, List.nil_append, List.append_nil, List.length_cons, List.length_nil, List.drop_nil, List.size_toArray, Nat.reduceAdd, Nat.reduceLeDiff, Nat.reduceBEq, Nat.zero_add, Nat.le_refl, decide_true, mkV, List.headD_cons, cellsV, w_fldV, w_ext, w_fldP, List.getElem?_toArray, List.getElem?_cons_zero, List.getElem?_cons_succ, beq_self_eq_true, selV]
    exact hQ _ (gz.trans g15)

end Go.Proofs.Ytelfpkegpffajaa
