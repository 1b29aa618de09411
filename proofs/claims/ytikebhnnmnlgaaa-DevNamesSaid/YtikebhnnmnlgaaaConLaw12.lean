/- Contracts: the statements of chapter 12, the first ones. -/
import Derived.Test.YtikebhnnmnlgaaaConDev
import Derived.Test.YtikebhnnmnlgaaaShLaw12
namespace Go.Proofs.Ytikebhnnmnlgaaa
open Go.Ab Go.Md
set_option linter.unusedVariables false
set_option linter.unusedSimpArgs false
set_option maxRecDepth 20000

variable {H : Heap} {Q : Value → Heap → Prop} {A B C : Nat → Prop}

theorem c_law12_spoil {O F : Nat → Prop} {v : Value} {d : Dv} (h : DvO H O F v d) (hd : Mid d) (hQ : ∀ H', Fr (fun y => ¬ F y) H H' → Q (.tuple #[]) H') : callV Try.prog (fnV fn_law12_spoil) [.agg #[v]] H Q := by
  apply S_law12_spoil_of
  unfold S_law12_spoil
  refine newT_of fun H1 g1 _ => ?_
  obtain ⟨⟨vss, h1, h2⟩, h3⟩ := h.g g1
  obtain ⟨vs, hv, hvs⟩ := h1.sl
  have hd1 := hd.1
  have len1 : vs.length = d.length := hvs.1.trans h2.1
  have out : ∀ {H' : Heap}, Wr F H1 H' → Sl rV H' O v vs := fun hw => hv.up hw.fr fun y hy _ => ⟨fun hF => h3 y hy hF, hy⟩
  refine loop_up d.length (fun i s H' => Wr F H1 H' ∧ s = [[.int .i64 (i : Int)]]) ⟨Wr.refl _ _, rfl⟩ ?_
  rintro i s H2 K hi ⟨hw, rfl⟩ hK
  refine (out hw).len ?_
  try simp only [sv_cons, sv_cons1, sc_cons, sc_cons1, asB_bool, ifB_true, ifB_false, un_not, bin_lss, bin_leq, bin_gtr, bin_geq, bin_eql, bin_neq, bin_add, bin_sub, bin_mul, ok_int, ok_bool, ok_slice, ok_str, ok_ptr, ok_map, ok_func, ok_iface, ok_nil, List.all_cons, List.all_nil, Bool.and_true, Bool.true_and, seg, setSeg, List.drop_succ_cons, List.drop_zero, List.take_succ_cons, List.take_zero, List.cons_append, List.nil_append, List.append_nil, List.length_cons, List.length_nil, List.drop_nil, List.size_toArray, Nat.reduceAdd, Nat.reduceLeDiff, Nat.reduceBEq, Nat.zero_add, Nat.le_refl, decide_true, mkV, List.headD_cons, cellsV, w_fldV, w_ext, w_fldP, List.getElem?_toArray, List.getElem?_cons_zero, List.getElem?_cons_succ, beq_self_eq_true, selV]
  refine ifD_of (fun c1 => ?_) (fun c1 => ?_)
  · have hlt : i < d.length := by omega
    obtain ⟨ws, hws, hl⟩ := h2.get (List.getElem?_eq_getElem hlt)
    obtain ⟨u, hu, hsu⟩ := hvs.get hws
    have hxs := hd.2 _ (List.getElem_mem hlt)
    generalize d[i] = xs at *
    have inn : ∀ {H' : Heap}, Wr F H1 H' → Sl rV H' O u ws := fun hw => hsu.up hw.fr fun y hy _ => ⟨fun hF => h3 y hy hF, hy⟩
    refine loop_up xs.length (fun k s H' => Wr F H1 H' ∧ s = [[.int .i64 (k : Int)]]) ⟨hw, rfl⟩ ?_
    rintro k s H3 K2 hk ⟨hw, rfl⟩ hK2
    refine (out hw).getV hu ((inn hw).len ?_)
    try simp only [sv_cons, sv_cons1, sc_cons, sc_cons1, asB_bool, ifB_true, ifB_false, un_not, bin_lss, bin_leq, bin_gtr, bin_geq, bin_eql, bin_neq, bin_add, bin_sub, bin_mul, ok_int, ok_bool, ok_slice, ok_str, ok_ptr, ok_map, ok_func, ok_iface, ok_nil, List.all_cons, List.all_nil, Bool.and_true, Bool.true_and, seg, setSeg, List.drop_succ_cons, List.drop_zero, List.take_succ_cons, List.take_zero, List.cons_append, List.nil_append, List.append_nil, List.length_cons, List.length_nil, List.drop_nil, List.size_toArray, Nat.reduceAdd, Nat.reduceLeDiff, Nat.reduceBEq, Nat.zero_add, Nat.le_refl, decide_true, mkV, List.headD_cons, cellsV, w_fldV, w_ext, w_fldP, List.getElem?_toArray, List.getElem?_cons_zero, List.getElem?_cons_succ, beq_self_eq_true, selV]
    have len2 := hl.1
    refine ifD_of (fun c2 => ?_) (fun c2 => ?_)
    · have hlt2 : k < xs.length := by omega
      obtain ⟨x, hx, hlf⟩ := hl.get (List.getElem?_eq_getElem hlt2)
      have hbl := hxs.2 _ (List.getElem_mem hlt2)
      generalize xs[k] = bs at *
      refine loop_up bs.length (fun n s H' => Wr F H1 H' ∧ s = [[.int .i64 (n : Int)]]) ⟨hw, rfl⟩ ?_
      rintro n s H4 K3 hn ⟨hw, rfl⟩ hK3
      have hwb := hlf.2.wr hw
      refine (out hw).getV hu ((inn hw).getV hx (hwb.len ?_))
      try simp only [sv_cons, sv_cons1, sc_cons, sc_cons1, asB_bool, ifB_true, ifB_false, un_not, bin_lss, bin_leq, bin_gtr, bin_geq, bin_eql, bin_neq, bin_add, bin_sub, bin_mul, ok_int, ok_bool, ok_slice, ok_str, ok_ptr, ok_map, ok_func, ok_iface, ok_nil, List.all_cons, List.all_nil, Bool.and_true, Bool.true_and, seg, setSeg, List.drop_succ_cons, List.drop_zero, List.take_succ_cons, List.take_zero, List.cons_append, List.nil_append, List.append_nil, List.length_cons, List.length_nil, List.drop_nil, List.size_toArray, Nat.reduceAdd, Nat.reduceLeDiff, Nat.reduceBEq, Nat.zero_add, Nat.le_refl, decide_true, mkV, List.headD_cons, cellsV, w_fldV, w_ext, w_fldP, List.getElem?_toArray, List.getElem?_cons_zero, List.getElem?_cons_succ, beq_self_eq_true, selV]
      refine ifD_of (fun c3 => ?_) (fun c3 => ?_)
      · refine (out hw).getV hu ((inn hw).getV hx ?_)
        refine (out hw).getV hu ((inn hw).getV hx (hwb.get (by omega) fun z => ?_))
        try simp only [sv_cons, sv_cons1, sc_cons, sc_cons1, asB_bool, ifB_true, ifB_false, un_not, bin_lss, bin_leq, bin_gtr, bin_geq, bin_eql, bin_neq, bin_add, bin_sub, bin_mul, ok_int, ok_bool, ok_slice, ok_str, ok_ptr, ok_map, ok_func, ok_iface, ok_nil, List.all_cons, List.all_nil, Bool.and_true, Bool.true_and, seg, setSeg, List.drop_succ_cons, List.drop_zero, List.take_succ_cons, List.take_zero, List.cons_append, List.nil_append, List.append_nil, List.length_cons, List.length_nil, List.drop_nil, List.size_toArray, Nat.reduceAdd, Nat.reduceLeDiff, Nat.reduceBEq, Nat.zero_add, Nat.le_refl, decide_true, mkV, List.headD_cons, cellsV, w_fldV, w_ext, w_fldP, List.getElem?_toArray, List.getElem?_cons_zero, List.getElem?_cons_succ, beq_self_eq_true, selV]
        refine hwb.put (by omega) fun H5 hw5 => ?_
        try simp only [sv_cons, sv_cons1, sc_cons, sc_cons1, asB_bool, ifB_true, ifB_false, un_not, bin_lss, bin_leq, bin_gtr, bin_geq, bin_eql, bin_neq, bin_add, bin_sub, bin_mul, ok_int, ok_bool, ok_slice, ok_str, ok_ptr, ok_map, ok_func, ok_iface, ok_nil, List.all_cons, List.all_nil, Bool.and_true, Bool.true_and, seg, setSeg, List.drop_succ_cons, List.drop_zero, List.take_succ_cons, List.take_zero, List.cons_append, List.nil_append, List.append_nil, List.length_cons, List.length_nil, List.drop_nil, List.size_toArray, Nat.reduceAdd, Nat.reduceLeDiff, Nat.reduceBEq, Nat.zero_add, Nat.le_refl, decide_true, mkV, List.headD_cons, cellsV, w_fldV, w_ext, w_fldP, List.getElem?_toArray, List.getElem?_cons_zero, List.getElem?_cons_succ, beq_self_eq_true, selV]
        rw [wrap_i64 (by unfold i64; omega)]
        exact hK3 _ _ (by omega) ⟨hw.trans hw5, by simp⟩
      · rw [wrap_i64 (by unfold i64; omega)]
        exact hK2 _ _ (by omega) ⟨hw, by simp⟩
    · rw [wrap_i64 (by unfold i64; omega)]
      exact hK _ _ (by omega) ⟨hw, by simp⟩
  · exact hQ H2 (Fr.trans g1 hw.fr fun y _ hy => ⟨trivial, hy⟩)

theorem mid_put {d : Dv} (hd : Mid d) {level b : Int} {x : By} (hx : x.length ≤ 1000000) : Mid (putB d level b x) := by
  refine ⟨by rw [len_put]; exact hd.1, fun y hy => ?_⟩
  unfold putB at hy
  rcases List.mem_or_eq_of_mem_set hy with h | rfl
  · exact hd.2 y h
  · refine ⟨by simp; exact mid_len hd, fun b hb => ?_⟩
    rcases List.mem_or_eq_of_mem_set hb with h | rfl
    · unfold lvlOf at h
      rw [List.getD_eq_getElem?_getD] at h
      cases hl : d[level.toNat]? with
      | none => rw [hl] at h; simp at h
      | some z => rw [hl] at h; exact (hd.2 z (List.mem_of_getElem? hl)).2 b h
    · exact hx
theorem mid_behind : ∀ {ss : List See} {d : Dv}, Mid d → (∀ s ∈ ss, s.bytes.length ≤ 1000000) → Mid (behind d ss)
  | [], d, hd, _ => hd
  | s :: ss, d, hd, hs => by
    show Mid (behind (behind1 d s) ss)
    refine mid_behind ?_ fun s' h => hs s' (by simp [h])
    unfold behind1
    split
    · exact mid_put hd (hs s (by simp))
    · exact hd
theorem mid_putAll {level : Int} : ∀ {l : List Int} {all : List By} {d : Dv}, Mid d → (∀ x ∈ all, x.length ≤ 1000000) → Mid (putAll d level l all)
  | [], [], d, hd, _ => hd
  | [], _ :: _, d, hd, _ => hd
  | _ :: _, [], d, hd, _ => hd
  | b :: l, x :: all, d, hd, hx => by
    show Mid (putAll (putB d level b x) level l all)
    exact mid_putAll (mid_put hd (hx x (by simp))) fun y hy => hx y (by simp [hy])
theorem mid_nil : Mid [] := ⟨by simp, by simp⟩
theorem mid_rep {c : Cfg} {d : Dv} {ss : List See} (hd : Mid d) : Mid (if repE c d ss = 0 then behind d ss else []) := by
  split
  · rename_i h
    refine mid_behind hd fun s hs => ?_
    unfold repE at h
    split at h
    · split at h
      · rename_i hall; exact seeOk_len hd (List.all_eq_true.1 hall s hs)
      · cases h
    · cases h
  · exact mid_nil

/-- An input that is a list of what is seen. -/
structure SeesIn (ss : List See) : Prop where
  by_ : ∀ s ∈ ss, s.bytes.length ≤ 140737488355328
  r64 : ∀ s ∈ ss, i64 s.bucket

theorem c_DevReplays {c : Cfg} {a l : Value} {d : Dv} {ss : List See} (ha : Sl rBys H A a d) (hl : Sl rSee H B l ss) (hs : SeesIn ss) (hQ : ∀ H', G H H' → Q (.bool true) H') :
    callV Try.prog (fnV fn_law12_DevReplays) [.agg (cCfg c).toArray, .agg #[a], l] H Q := by
  apply S_law12_DevReplays_of
  unfold S_law12_DevReplays
  have ha := ha.old
  have hl := hl.old
  refine newT_of fun H1 g1 s1 => newT_of fun H2 g2 s2 => ?_
  refine join_of (fun s H' => G H H' ∧ ∃ b, s = [[.bool b]] ∧ (b = false → Small d ∧ ss.length ≤ 2000)) (fun K hK => ?_) ?_
  · refine c_ref12_Great (ha.g (g1.trans g2)) fun b H3 hb g3 => ?_
    have g := (g1.trans g2).trans g3
    cases b with
    | true => exact hK _ _ ⟨g, true, rfl, fun h => by cases h⟩
    | false => exact c_ref12_GreatSees (hl.g g) fun b2 hb2 => hK _ _ ⟨g, b2, rfl, fun h => ⟨hb rfl, hb2 h⟩⟩
  rintro s H3 ⟨g, b, rfl, hsm⟩
  cases b with
  | true => exact hQ _ g
  | false =>
    obtain ⟨hsmall, hsl⟩ := hsm rfl
    have hmid := hsmall.mid
    refine c_ref12_Twin (ha.g g) hmid fun own H4 hown => ?_
    have g4 := hown.g
    obtain ⟨O0, F0, hdo, hOF⟩ := hown.out
    have hown := (hdo.sl (A := fun _ => True) fun _ _ => trivial).old
    refine c_ref12_TwinSees (hl.g (g.trans g4)) (by omega) hs.by_ fun mine H5 hmine g5 => newT_of fun H6 g6 s6 => ?_
    have hmine := hmine.old
    have hok1 := hown.okcv
    try simp only [sv_cons, sv_cons1, sc_cons, sc_cons1, asB_bool, ifB_true, ifB_false, un_not, bin_lss, bin_leq, bin_gtr, bin_geq, bin_eql, bin_neq, bin_add, bin_sub, bin_mul, ok_int, ok_bool, ok_slice, ok_str, ok_ptr, ok_map, ok_func, ok_iface, ok_nil, List.all_cons, List.all_nil, Bool.and_true, Bool.true_and, seg, setSeg, List.drop_succ_cons, List.drop_zero, List.take_succ_cons, List.take_zero, List.cons_append, List.nil_append, List.append_nil, List.length_cons, List.length_nil, List.drop_nil, List.size_toArray, Nat.reduceAdd, Nat.reduceLeDiff, Nat.reduceBEq, Nat.zero_add, Nat.le_refl, decide_true, mkV, List.headD_cons, cellsV, w_fldV, w_ext, w_fldP, List.getElem?_toArray, List.getElem?_cons_zero, List.getElem?_cons_succ, beq_self_eq_true, selV, hok1]
    have gA := ((g.trans g4).trans g5).trans g6
    refine c_dev_Replay (hown.g (g5.trans g6)) (hmine.g g6) hmid ⟨by omega, hs.r64⟩ fun x O F H7 hx g7 => ?_
    have hok2 := hx.dv.okcv
    try simp only [sv_cons, sv_cons1, sc_cons, sc_cons1, asB_bool, ifB_true, ifB_false, un_not, bin_lss, bin_leq, bin_gtr, bin_geq, bin_eql, bin_neq, bin_add, bin_sub, bin_mul, ok_int, ok_bool, ok_slice, ok_str, ok_ptr, ok_map, ok_func, ok_iface, ok_nil, List.all_cons, List.all_nil, Bool.and_true, Bool.true_and, seg, setSeg, List.drop_succ_cons, List.drop_zero, List.take_succ_cons, List.take_zero, List.cons_append, List.nil_append, List.append_nil, List.length_cons, List.length_nil, List.drop_nil, List.size_toArray, Nat.reduceAdd, Nat.reduceLeDiff, Nat.reduceBEq, Nat.zero_add, Nat.le_refl, decide_true, mkV, List.headD_cons, cellsV, w_fldV, w_ext, w_fldP, List.getElem?_toArray, List.getElem?_cons_zero, List.getElem?_cons_succ, beq_self_eq_true, selV, hok2]
    refine newT_of fun H8 g8 s8 => ?_
    have gB := (gA.trans g7).trans g8
    refine c_ref12_Replay (ha.g gB) (hl.g gB) hmid ⟨by omega, hs.r64⟩ fun y H9 hy g9 => ?_
    have hok3 := hy.okcv
    try simp only [sv_cons, sv_cons1, sc_cons, sc_cons1, asB_bool, ifB_true, ifB_false, un_not, bin_lss, bin_leq, bin_gtr, bin_geq, bin_eql, bin_neq, bin_add, bin_sub, bin_mul, ok_int, ok_bool, ok_slice, ok_str, ok_ptr, ok_map, ok_func, ok_iface, ok_nil, List.all_cons, List.all_nil, Bool.and_true, Bool.true_and, seg, setSeg, List.drop_succ_cons, List.drop_zero, List.take_succ_cons, List.take_zero, List.cons_append, List.nil_append, List.append_nil, List.length_cons, List.length_nil, List.drop_nil, List.size_toArray, Nat.reduceAdd, Nat.reduceLeDiff, Nat.reduceBEq, Nat.zero_add, Nat.le_refl, decide_true, mkV, List.headD_cons, cellsV, w_fldV, w_ext, w_fldP, List.getElem?_toArray, List.getElem?_cons_zero, List.getElem?_cons_succ, beq_self_eq_true, selV, hok3]
    refine newT_of fun H10 g10 s10 => ?_
    have gx : G H7 H10 := (g8.trans g9).trans g10
    have hx10 := hx.g gx
    have hbmid := mid_rep (c := c) (ss := ss) hmid
    refine join_of (fun s H' => G H10 H' ∧ s = [[.bool true]]) (fun K hK => ?_) ?_
    · refine c_ref12_Same hx10.sl (hy.g g10) (by have := hbmid.1; omega) (fun x hx => by have := (hbmid.2 x hx).1; omega) fun H11 g11 => ?_
      rw [decide_eq_true rfl]
      try simp only [sv_cons, sv_cons1, sc_cons, sc_cons1, asB_bool, ifB_true, ifB_false, un_not, bin_lss, bin_leq, bin_gtr, bin_geq, bin_eql, bin_neq, bin_add, bin_sub, bin_mul, ok_int, ok_bool, ok_slice, ok_str, ok_ptr, ok_map, ok_func, ok_iface, ok_nil, List.all_cons, List.all_nil, Bool.and_true, Bool.true_and, seg, setSeg, List.drop_succ_cons, List.drop_zero, List.take_succ_cons, List.take_zero, List.cons_append, List.nil_append, List.append_nil, List.length_cons, List.length_nil, List.drop_nil, List.size_toArray, Nat.reduceAdd, Nat.reduceLeDiff, Nat.reduceBEq, Nat.zero_add, Nat.le_refl, decide_true, mkV, List.headD_cons, cellsV, w_fldV, w_ext, w_fldP, List.getElem?_toArray, List.getElem?_cons_zero, List.getElem?_cons_succ, beq_self_eq_true, selV]
      exact hK _ _ ⟨g11, rfl⟩
    rintro s H11 ⟨g11, rfl⟩
    refine c_law12_spoil (hx10.dv.g g11) hbmid fun H12 f12 => ?_
    -- what was there before the device that is spoiled is there still
    have gy : G H6 H11 := (g7.trans gx).trans g11
    have keep : ∀ {Hk : Heap}, G Hk H6 → Fr (fun y => y < Hk.size) Hk H12 := fun {Hk} gk => Fr.trans (gk.trans gy) f12 fun y _ (hy : y < Hk.size) => ⟨trivial, fun hF => by have := (hx.inO y (.inr hF)).1; have := gk.size; omega⟩
    have k0 : Fr (fun y => y < H.size) H H12 := keep gA
    have gz : G H H12 := k0.g fun y hy => hy
    refine join_of (fun s H' => G H12 H' ∧ s = [[.bool true]]) (fun K hK => ?_) ?_
    · try simp only [sv_cons, sv_cons1, sc_cons, sc_cons1, asB_bool, ifB_true, ifB_false, un_not, bin_lss, bin_leq, bin_gtr, bin_geq, bin_eql, bin_neq, bin_add, bin_sub, bin_mul, ok_int, ok_bool, ok_slice, ok_str, ok_ptr, ok_map, ok_func, ok_iface, ok_nil, List.all_cons, List.all_nil, Bool.and_true, Bool.true_and, seg, setSeg, List.drop_succ_cons, List.drop_zero, List.take_succ_cons, List.take_zero, List.cons_append, List.nil_append, List.append_nil, List.length_cons, List.length_nil, List.drop_nil, List.size_toArray, Nat.reduceAdd, Nat.reduceLeDiff, Nat.reduceBEq, Nat.zero_add, Nat.le_refl, decide_true, mkV, List.headD_cons, cellsV, w_fldV, w_ext, w_fldP, List.getElem?_toArray, List.getElem?_cons_zero, List.getElem?_cons_succ, beq_self_eq_true, selV]
      refine c_ref12_Same (hown.up (keep (g5.trans g6)) fun y hy _ => ⟨hy, hy⟩) (ha.up k0 fun y hy _ => ⟨hy, hy⟩) (by have := hmid.1; omega) (fun x hx => by have := (hmid.2 x hx).1; omega) fun H13 g13 => ?_
      rw [decide_eq_true rfl]
      try simp only [sv_cons, sv_cons1, sc_cons, sc_cons1, asB_bool, ifB_true, ifB_false, un_not, bin_lss, bin_leq, bin_gtr, bin_geq, bin_eql, bin_neq, bin_add, bin_sub, bin_mul, ok_int, ok_bool, ok_slice, ok_str, ok_ptr, ok_map, ok_func, ok_iface, ok_nil, List.all_cons, List.all_nil, Bool.and_true, Bool.true_and, seg, setSeg, List.drop_succ_cons, List.drop_zero, List.take_succ_cons, List.take_zero, List.cons_append, List.nil_append, List.append_nil, List.length_cons, List.length_nil, List.drop_nil, List.size_toArray, Nat.reduceAdd, Nat.reduceLeDiff, Nat.reduceBEq, Nat.zero_add, Nat.le_refl, decide_true, mkV, List.headD_cons, cellsV, w_fldV, w_ext, w_fldP, List.getElem?_toArray, List.getElem?_cons_zero, List.getElem?_cons_succ, beq_self_eq_true, selV]
      refine c_ref12_SameSees ((hmine.up (keep g6) fun y hy _ => ⟨hy, hy⟩).g g13) ((hl.up k0 fun y hy _ => ⟨hy, hy⟩).g g13) (by omega) ?_
      rw [decide_eq_true rfl]
      exact hK _ _ ⟨g13, rfl⟩
    rintro s H13 ⟨g13, rfl⟩
    exact hQ _ (gz.trans g13)

end Go.Proofs.Ytikebhnnmnlgaaa
