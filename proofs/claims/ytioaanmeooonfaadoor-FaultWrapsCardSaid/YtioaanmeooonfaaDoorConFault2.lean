/- Contracts: faults wrapped and opened. -/
import Derived.Test.YtioaanmeooonfaaDoorConFault
namespace Go.Proofs.YtioaanmeooonfaaDoor
open Go.Ab Go.Md
set_option linter.unusedVariables false
set_option linter.unusedSimpArgs false
set_option maxRecDepth 20000

variable {H : Heap} {Q : Value → Heap → Prop} {A B C : Nat → Prop}

abbrev tupP (a b : Value) : Value := .tuple #[a, b]
abbrev tupT (a b c : Value) : Value := .tuple #[a, b, c]

theorem c_fault_chain {code : Int} {v : Value} {marks : List Mk} (hv : Sl rMk H A v marks) (hl : marks.length ≤ 1000000) (hQ : ∀ er H', ChV code marks er H' → okc er = true → G H H' → Q er H') :
    callV Tryd.prog (fnV fn_fault_chain) [.agg #[.int .i64 code, v]] H Q := by
  apply S_fault_chain_of
  unfold S_fault_chain
  have hv := hv.old
  refine newC_bx fun H1 b1 g1 s1 => newC_bx fun H2 b2 g2 s2 => ?_
  have b1 := b1.g g2
  try simp only [sv_cons, sv_cons1, sc_cons, sc_cons1, asB_bool, ifB_true, ifB_false, un_not, bin_lss, bin_leq, bin_gtr, bin_geq, bin_eql, bin_neq, bin_add, bin_sub, bin_mul, ok_int, ok_bool, ok_slice, ok_str, ok_ptr, ok_map, ok_func, ok_iface, ok_nil, List.all_cons, List.all_nil, Bool.and_true, Bool.true_and, seg, setSeg, List.drop_succ_cons, List.drop_zero, List.take_succ_cons, List.take_zero, List.cons_append, List.nil_append, List.append_nil, List.length_cons, List.length_nil, List.drop_nil, List.size_toArray, Nat.reduceAdd, Nat.reduceLeDiff, Nat.reduceBEq, Nat.zero_add, Nat.le_refl, decide_true, mkV, List.headD_cons, cellsV, w_fldV, w_ext, w_fldP, List.getElem?_toArray, List.getElem?_cons_zero, List.getElem?_cons_succ, beq_self_eq_true, selV]
  refine b1.loadF (by simp) ?_
  try simp only [sv_cons, sv_cons1, sc_cons, sc_cons1, asB_bool, ifB_true, ifB_false, un_not, bin_lss, bin_leq, bin_gtr, bin_geq, bin_eql, bin_neq, bin_add, bin_sub, bin_mul, ok_int, ok_bool, ok_slice, ok_str, ok_ptr, ok_map, ok_func, ok_iface, ok_nil, List.all_cons, List.all_nil, Bool.and_true, Bool.true_and, seg, setSeg, List.drop_succ_cons, List.drop_zero, List.take_succ_cons, List.take_zero, List.cons_append, List.nil_append, List.append_nil, List.length_cons, List.length_nil, List.drop_nil, List.size_toArray, Nat.reduceAdd, Nat.reduceLeDiff, Nat.reduceBEq, Nat.zero_add, Nat.le_refl, decide_true, mkV, List.headD_cons, cellsV, w_fldV, w_ext, w_fldP, List.getElem?_toArray, List.getElem?_cons_zero, List.getElem?_cons_succ, beq_self_eq_true, selV]
  refine b2.store rfl fun H3 b2 f3 s3 => ?_
  have b1 := b1.up f3 (show H.size ≠ H1.size by omega)
  have g3 : G H H3 := (g1.trans g2).then f3 fun y hy => show y ≠ H1.size by omega
  try simp only [sv_cons, sv_cons1, sc_cons, sc_cons1, asB_bool, ifB_true, ifB_false, un_not, bin_lss, bin_leq, bin_gtr, bin_geq, bin_eql, bin_neq, bin_add, bin_sub, bin_mul, ok_int, ok_bool, ok_slice, ok_str, ok_ptr, ok_map, ok_func, ok_iface, ok_nil, List.all_cons, List.all_nil, Bool.and_true, Bool.true_and, seg, setSeg, List.drop_succ_cons, List.drop_zero, List.take_succ_cons, List.take_zero, List.cons_append, List.nil_append, List.append_nil, List.length_cons, List.length_nil, List.drop_nil, List.size_toArray, Nat.reduceAdd, Nat.reduceLeDiff, Nat.reduceBEq, Nat.zero_add, Nat.le_refl, decide_true, mkV, List.headD_cons, cellsV, w_fldV, w_ext, w_fldP, List.getElem?_toArray, List.getElem?_cons_zero, List.getElem?_cons_succ, beq_self_eq_true, selV]
  refine b1.loadF (by simp) ?_
  try simp only [sv_cons, sv_cons1, sc_cons, sc_cons1, asB_bool, ifB_true, ifB_false, un_not, bin_lss, bin_leq, bin_gtr, bin_geq, bin_eql, bin_neq, bin_add, bin_sub, bin_mul, ok_int, ok_bool, ok_slice, ok_str, ok_ptr, ok_map, ok_func, ok_iface, ok_nil, List.all_cons, List.all_nil, Bool.and_true, Bool.true_and, seg, setSeg, List.drop_succ_cons, List.drop_zero, List.take_succ_cons, List.take_zero, List.cons_append, List.nil_append, List.append_nil, List.length_cons, List.length_nil, List.drop_nil, List.size_toArray, Nat.reduceAdd, Nat.reduceLeDiff, Nat.reduceBEq, Nat.zero_add, Nat.le_refl, decide_true, mkV, List.headD_cons, cellsV, w_fldV, w_ext, w_fldP, List.getElem?_toArray, List.getElem?_cons_zero, List.getElem?_cons_succ, beq_self_eq_true, selV]
  apply S_slices_Backward_api_Mark_api_Mark_of
  unfold S_slices_Backward_api_Mark_api_Mark
  rw [hv.okcv, ifB_true]
  refine newC_bx fun H4 b4 g4 s4 => ?_
  have b2 := b2.g g4
  have g4' := g3.trans g4
  have hsz := g4'.size
  have hdl : marks.drop (marks.length - 0) = [] := by simp
  refine range_iter (c_Backward_mk_1 (B := fun y => y < H.size) (a1 := H3.size) (v := v) (l := marks) hl) trivial
    (fun i H' => G H H' ∧ (∃ er, ChV code (marks.drop (marks.length - i)) er H' ∧ okc er = true ∧ Bx H' H1.size [er] ∧ ∀ e, er = .iface 45 (.pointer (some ⟨e, 0, none⟩)) → H4.size + 2 ≤ e) ∧ Bx H' H3.size [v] ∧ Sl rMk H' (fun y => y < H.size) v marks ∧ H4.size + 2 ≤ H'.size)
    (fun _ _ => False) ?_ (fun _ _ _ h => h.elim) ?_ (fun _ _ _ h => h.elim) (fun i H' h => h.2.2.2.2) (fun _ _ h => h.elim) ?_ ?_ ?_ (fun _ _ h => h.elim)
  · rintro i Ha Hb ⟨k1, ⟨er, k2, k3, k4, k5⟩, k6, k7, k8⟩ g
    exact ⟨k1.trans g, ⟨er, k2.up g fun _ _ => trivial, k3, k4.g g, k5⟩, k6.g g, k7.g g, by have := g.size; omega⟩
  · rintro i Ha Hb ⟨k1, ⟨er, k2, k3, k4, k5⟩, k6, k7, k8⟩ f
    exact ⟨k6.up f (show H3.size ≠ H4.size + 1 by omega), k7.up f fun y hy _ => ⟨show y ≠ H4.size + 1 by omega, hy⟩⟩
  · intro Ha ga sa
    exact ⟨g4'.trans ga, ⟨.iface 74 (.agg #[.int .i64 code]), by rw [hdl]; rfl, rfl, b2.g ga, fun e h => by cases h⟩, b4.g ga, hv.g (g4'.trans ga), by omega⟩
  · rintro i Ha Hb a K hi ⟨k1, ⟨er, k2, k3, k4, k5⟩, k6, k7, k8⟩ ⟨x, n, hx, rfl⟩ f sz htb hK _
    unfold arg2
    try simp only [sv_cons, sv_cons1, sc_cons, sc_cons1, asB_bool, ifB_true, ifB_false, un_not, bin_lss, bin_leq, bin_gtr, bin_geq, bin_eql, bin_neq, bin_add, bin_sub, bin_mul, ok_int, ok_bool, ok_slice, ok_str, ok_ptr, ok_map, ok_func, ok_iface, ok_nil, List.all_cons, List.all_nil, Bool.and_true, Bool.true_and, seg, setSeg, List.drop_succ_cons, List.drop_zero, List.take_succ_cons, List.take_zero, List.cons_append, List.nil_append, List.append_nil, List.length_cons, List.length_nil, List.drop_nil, List.size_toArray, Nat.reduceAdd, Nat.reduceLeDiff, Nat.reduceBEq, Nat.zero_add, Nat.le_refl, decide_true, mkV, List.headD_cons, cellsV, w_fldV, w_ext, w_fldP, List.getElem?_toArray, List.getElem?_cons_zero, List.getElem?_cons_succ, beq_self_eq_true, selV]
    refine newC_bx fun Hc b5 gc sc => b5.storeA rfl rfl rfl fun Hd b5 fd sd => ?_
    have gd : G Hb Hd := gc.then fd fun y hy => show y ≠ Hb.size by omega
    have k4 := k4.g gd
    try simp only [sv_cons, sv_cons1, sc_cons, sc_cons1, asB_bool, ifB_true, ifB_false, un_not, bin_lss, bin_leq, bin_gtr, bin_geq, bin_eql, bin_neq, bin_add, bin_sub, bin_mul, ok_int, ok_bool, ok_slice, ok_str, ok_ptr, ok_map, ok_func, ok_iface, ok_nil, List.all_cons, List.all_nil, Bool.and_true, Bool.true_and, seg, setSeg, List.drop_succ_cons, List.drop_zero, List.take_succ_cons, List.take_zero, List.cons_append, List.nil_append, List.append_nil, List.length_cons, List.length_nil, List.drop_nil, List.size_toArray, Nat.reduceAdd, Nat.reduceLeDiff, Nat.reduceBEq, Nat.zero_add, Nat.le_refl, decide_true, mkV, List.headD_cons, cellsV, w_fldV, w_ext, w_fldP, List.getElem?_toArray, List.getElem?_cons_zero, List.getElem?_cons_succ, beq_self_eq_true, selV]
    refine b5.load rfl ?_
    try simp only [sv_cons, sv_cons1, sc_cons, sc_cons1, asB_bool, ifB_true, ifB_false, un_not, bin_lss, bin_leq, bin_gtr, bin_geq, bin_eql, bin_neq, bin_add, bin_sub, bin_mul, ok_int, ok_bool, ok_slice, ok_str, ok_ptr, ok_map, ok_func, ok_iface, ok_nil, List.all_cons, List.all_nil, Bool.and_true, Bool.true_and, seg, setSeg, List.drop_succ_cons, List.drop_zero, List.take_succ_cons, List.take_zero, List.cons_append, List.nil_append, List.append_nil, List.length_cons, List.length_nil, List.drop_nil, List.size_toArray, Nat.reduceAdd, Nat.reduceLeDiff, Nat.reduceBEq, Nat.zero_add, Nat.le_refl, decide_true, mkV, List.headD_cons, cellsV, w_fldV, w_ext, w_fldP, List.getElem?_toArray, List.getElem?_cons_zero, List.getElem?_cons_succ, beq_self_eq_true, selV]
    refine k4.load rfl ?_
    try simp only [sv_cons, sv_cons1, sc_cons, sc_cons1, asB_bool, ifB_true, ifB_false, un_not, bin_lss, bin_leq, bin_gtr, bin_geq, bin_eql, bin_neq, bin_add, bin_sub, bin_mul, ok_int, ok_bool, ok_slice, ok_str, ok_ptr, ok_map, ok_func, ok_iface, ok_nil, List.all_cons, List.all_nil, Bool.and_true, Bool.true_and, seg, setSeg, List.drop_succ_cons, List.drop_zero, List.take_succ_cons, List.take_zero, List.cons_append, List.nil_append, List.append_nil, List.length_cons, List.length_nil, List.drop_nil, List.size_toArray, Nat.reduceAdd, Nat.reduceLeDiff, Nat.reduceBEq, Nat.zero_add, Nat.le_refl, decide_true, mkV, List.headD_cons, cellsV, w_fldV, w_ext, w_fldP, List.getElem?_toArray, List.getElem?_cons_zero, List.getElem?_cons_succ, beq_self_eq_true, selV, k3]
    unfold cellsU
    try simp only [sv_cons, sv_cons1, sc_cons, sc_cons1, asB_bool, ifB_true, ifB_false, un_not, bin_lss, bin_leq, bin_gtr, bin_geq, bin_eql, bin_neq, bin_add, bin_sub, bin_mul, ok_int, ok_bool, ok_slice, ok_str, ok_ptr, ok_map, ok_func, ok_iface, ok_nil, List.all_cons, List.all_nil, Bool.and_true, Bool.true_and, seg, setSeg, List.drop_succ_cons, List.drop_zero, List.take_succ_cons, List.take_zero, List.cons_append, List.nil_append, List.append_nil, List.length_cons, List.length_nil, List.drop_nil, List.size_toArray, Nat.reduceAdd, Nat.reduceLeDiff, Nat.reduceBEq, Nat.zero_add, Nat.le_refl, decide_true, mkV, List.headD_cons, cellsV, w_fldV, w_ext, w_fldP, List.getElem?_toArray, List.getElem?_cons_zero, List.getElem?_cons_succ, beq_self_eq_true, selV, k3]
    refine newC_bx fun He b6 ge se => ?_
    have k4 := k4.g ge
    have gde := gd.trans ge
    have hsz2 := gd.size
    try simp only [sv_cons, sv_cons1, sc_cons, sc_cons1, asB_bool, ifB_true, ifB_false, un_not, bin_lss, bin_leq, bin_gtr, bin_geq, bin_eql, bin_neq, bin_add, bin_sub, bin_mul, ok_int, ok_bool, ok_slice, ok_str, ok_ptr, ok_map, ok_func, ok_iface, ok_nil, List.all_cons, List.all_nil, Bool.and_true, Bool.true_and, seg, setSeg, List.drop_succ_cons, List.drop_zero, List.take_succ_cons, List.take_zero, List.cons_append, List.nil_append, List.append_nil, List.length_cons, List.length_nil, List.drop_nil, List.size_toArray, Nat.reduceAdd, Nat.reduceLeDiff, Nat.reduceBEq, Nat.zero_add, Nat.le_refl, decide_true, mkV, List.headD_cons, cellsV, w_fldV, w_ext, w_fldP, List.getElem?_toArray, List.getElem?_cons_zero, List.getElem?_cons_succ, beq_self_eq_true, selV]
    refine k4.store rfl fun Hf k4 ff sf => ?_
    have g' : G H Hf := (k1.trans gde).then ff fun y hy => show y ≠ H1.size by omega
    refine hK Hf ⟨g', ⟨_, ?_, rfl, k4, fun e h => by cases h; omega⟩, (k6.g gde).up ff (show H3.size ≠ H1.size by omega), (k7.g gde).up ff fun y hy _ => ⟨show y ≠ H1.size by omega, hy⟩, by have := gde.size; omega⟩
      (fr_at (fr_at htb gde trivial) ff (show H4.size + 1 ≠ H1.size by omega))
    have hd : marks.drop (marks.length - (i + 1)) = x :: marks.drop (marks.length - i) := by
      have hlt := (List.getElem?_eq_some_iff.1 hx).1
      rw [show marks.length - (i + 1) = marks.length - 1 - i by omega, List.drop_eq_getElem_cons hlt]
      rw [List.getElem?_eq_getElem hlt] at hx
      injection hx with hx
      rw [hx]
      congr 2
      omega
    rw [hd]
    exact ⟨Hd.size, er, rfl, b6.up ff (show Hd.size ≠ H1.size by have := k1.size; omega)⟩
  · rintro Ha ⟨k1, ⟨er, k2, k3, k4, k5⟩, k6, k7, k8⟩
    rw [Nat.sub_self, List.drop_zero] at k2
    refine k4.load rfl ?_
    try simp only [sv_cons, sv_cons1, sc_cons, sc_cons1, asB_bool, ifB_true, ifB_false, un_not, bin_lss, bin_leq, bin_gtr, bin_geq, bin_eql, bin_neq, bin_add, bin_sub, bin_mul, ok_int, ok_bool, ok_slice, ok_str, ok_ptr, ok_map, ok_func, ok_iface, ok_nil, List.all_cons, List.all_nil, Bool.and_true, Bool.true_and, seg, setSeg, List.drop_succ_cons, List.drop_zero, List.take_succ_cons, List.take_zero, List.cons_append, List.nil_append, List.append_nil, List.length_cons, List.length_nil, List.drop_nil, List.size_toArray, Nat.reduceAdd, Nat.reduceLeDiff, Nat.reduceBEq, Nat.zero_add, Nat.le_refl, decide_true, mkV, List.headD_cons, cellsV, w_fldV, w_ext, w_fldP, List.getElem?_toArray, List.getElem?_cons_zero, List.getElem?_cons_succ, beq_self_eq_true, selV]
    refine k4.store k3 fun Hb k4 fb sb => k4.load rfl ?_
    try simp only [sv_cons, sv_cons1, sc_cons, sc_cons1, asB_bool, ifB_true, ifB_false, un_not, bin_lss, bin_leq, bin_gtr, bin_geq, bin_eql, bin_neq, bin_add, bin_sub, bin_mul, ok_int, ok_bool, ok_slice, ok_str, ok_ptr, ok_map, ok_func, ok_iface, ok_nil, List.all_cons, List.all_nil, Bool.and_true, Bool.true_and, seg, setSeg, List.drop_succ_cons, List.drop_zero, List.take_succ_cons, List.take_zero, List.cons_append, List.nil_append, List.append_nil, List.length_cons, List.length_nil, List.drop_nil, List.size_toArray, Nat.reduceAdd, Nat.reduceLeDiff, Nat.reduceBEq, Nat.zero_add, Nat.le_refl, decide_true, mkV, List.headD_cons, cellsV, w_fldV, w_ext, w_fldP, List.getElem?_toArray, List.getElem?_cons_zero, List.getElem?_cons_succ, beq_self_eq_true, selV]
    exact hQ er Hb (k2.up fb fun e he => show e ≠ H1.size by have := k5 e he; omega) k3 (k1.then fb fun y hy => show y ≠ H1.size by omega)

/-! ### Copies -/

theorem c_Clone_mk {x : Value} {xs : List Mk} (hx : Sl rMk H A x xs) (hl : xs.length ≤ 1000000) (hQ : ∀ u H' b, Ow rMk H' b (fun _ => False) u xs → G H H' → (b = 0 ∨ H.size < b) → Q u H') :
    callV Tryd.prog (fnV fn_slices_Clone_api_Mark_api_Mark) [x] H Q := by
  apply S_slices_Clone_api_Mark_api_Mark_of
  exact clone_gen (R := rMk) hx rfl (by decide) rfl (by omega) (by omega) fun u H' b ho g hb => hQ u H' b (ow_mk ho) g hb

theorem ovMk : ∃ (fn : Func) (tS tR e : TypeId), Tryd.prog.funcs[fn_slices_overlaps_api_Mark]? = some fn ∧ (fn.name == "runtime.NumGoroutine") = false ∧ fn.body.isNone = true ∧ Extern.findNext fn = none ∧
    Extern.find fn = some (Extern.SlicesOverlaps.overlaps #[tS, tS] #[tR]) ∧ Tryd.prog.underlying tS = some (.slice e) ∧ szOf Tryd.prog e = some 2 :=
  ⟨(match Tryd.prog.funcs[fn_slices_overlaps_api_Mark]? with | some f => f | none => Tryd.f0),
   ((match Tryd.prog.funcs[fn_slices_overlaps_api_Mark]? with | some f => f | none => Tryd.f0).params.getD 0 0), ((match Tryd.prog.funcs[fn_slices_overlaps_api_Mark]? with | some f => f | none => Tryd.f0).resultTypes.getD 0 0),
   (match Tryd.prog.underlying ((match Tryd.prog.funcs[fn_slices_overlaps_api_Mark]? with | some f => f | none => Tryd.f0).params.getD 0 0) with | some (.slice e) => e | _ => 0),
   by kernel_rfl, by kernel_rfl, by kernel_rfl, by kernel_rfl, by kernel_rfl, by kernel_rfl, by kernel_rfl⟩

theorem c_Insert_mk {v u : Value} {xs ys : List Mk} {b b2 i : Nat} (h : Ow rMk H b A v xs) (hu : Ow rMk H b2 B u ys) (hi : i ≤ xs.length) (hy : 0 < ys.length) (hb2 : b2 ≠ b) (hd : ∀ y, (A y ∨ B y) → y < H.size → y + 1 ≠ b)
    (hl : xs.length + ys.length ≤ 1000000) (hQ : ∀ w H' b', Ow rMk H' b' (fun y => (A y ∨ B y) ∧ y < H.size) w (insL xs i ys) → Fr (fun y => y + 1 ≠ b) H H' → (b' = b ∨ b' = H.size + 1) → Q w H') :
    callV Tryd.prog (fnV fn_slices_Insert_api_Mark_api_Mark) [v, .int .i64 (i : Int), u] H Q := by
  apply S_slices_Insert_api_Mark_api_Mark_of
  obtain ⟨fn, tS, tR, e, q1, q2, q3, q4, q5, q6, q7⟩ := ovMk
  exact ins_of (R := rMk) (n := 2) (rot := fun t91 t14 H K => callV Tryd.prog (fnV fn_slices_rotateRight_api_Mark) [t91, t14] H K) h hu rfl (by decide) rfl hi hy hb2 hd (by omega) (by omega)
    (fun ka kb oa ob la ca lb cb xa xb ea eb K h1 h2 h3 h4 h5 => xc_apart q1 q2 q3 q4 q5 q6 q7 h1 h2 h3 h4 h5) hQ

theorem c_ref06_Twin {f : Flt} {v : Value} (hv : Sl rMk H A v f.marks) (hl : f.marks.length ≤ 1000000) (hQ : ∀ u H', Sl rMk H' (fun y => H.size ≤ y) u f.marks → G H H' → Q (.agg #[.int .i64 f.code, u]) H') :
    callV Tryd.prog (fnV fn_ref06_Twin) [.agg #[.int .i64 f.code, v]] H Q := by
  apply S_ref06_Twin_of
  unfold S_ref06_Twin
  have hv := hv.old
  refine newT_of fun H1 g1 s1 => newT_of fun H2 g2 s2 => bld_nil rMk fun t H3 ht g3 s3 => ?_
  have g := (g1.trans g2).trans g3
  have hz := g.size
  refine ht.app (hv.g g).src rfl (by decide) rfl (fun y hy _ => hy.elim False.elim fun hh => by omega) (by simp; omega) (by simp; omega) fun w H4 bw hw f4 hbw _ => ?_
  rw [List.nil_append] at hw
  have hw : Ow rMk H4 bw (fun _ => False) w f.marks := ow_mk hw
  try simp only [sv_cons, sv_cons1, sc_cons, sc_cons1, asB_bool, ifB_true, ifB_false, un_not, bin_lss, bin_leq, bin_gtr, bin_geq, bin_eql, bin_neq, bin_add, bin_sub, bin_mul, ok_int, ok_bool, ok_slice, ok_str, ok_ptr, ok_map, ok_func, ok_iface, ok_nil, List.all_cons, List.all_nil, Bool.and_true, Bool.true_and, seg, setSeg, List.drop_succ_cons, List.drop_zero, List.take_succ_cons, List.take_zero, List.cons_append, List.nil_append, List.append_nil, List.length_cons, List.length_nil, List.drop_nil, List.size_toArray, Nat.reduceAdd, Nat.reduceLeDiff, Nat.reduceBEq, Nat.zero_add, Nat.le_refl, decide_true, mkV, List.headD_cons, cellsV, w_fldV, w_ext, w_fldP, List.getElem?_toArray, List.getElem?_cons_zero, List.getElem?_cons_succ, beq_self_eq_true, selV, hw.okcv]
  exact hQ w H4 (hw.slF fun k hk => by omega) (g.then f4 fun y hy => show y + 1 ≠ H2.size + 1 by omega)

/-! ### Wrapped -/

theorem insL_0 (xs : List Mk) (m : Mk) : insL xs 0 [m] = m :: xs := by simp [insL]

theorem c_fault_Wrap {f : Flt} {m : Mk} {v : Value} (hv : Sl rMk H A v f.marks) (hl : f.marks.length ≤ 1000000) (hm : i64 m.level ∧ i64 m.place)
    (hQ : ∀ u H', Sl rMk H' (fun y => H.size ≤ y) u (wrapV f m).marks → G H H' → Q (tupP (.agg #[.int .i64 (wrapV f m).code, u]) (.int .i64 (wrapE f m))) H') :
    callV Tryd.prog (fnV fn_fault_Wrap) [.agg #[.int .i64 f.code, v], vMk m] H Q := by
  apply S_fault_Wrap_of
  unfold S_fault_Wrap
  have hv := hv.old
  have bad : ∀ e H', wrapE f m = e → e ≠ 0 → G H H' → Q (tupP (.agg #[.int .i64 0, .slice none 0 0]) (.int .i64 e)) H' := fun e H' he hne g => by
    have ev : wrapV f m = ⟨0, []⟩ := by unfold wrapV; rw [he, if_neg hne]
    have := hQ (.slice none 0 0) H' (by rw [ev]; exact Sl.nil _ _ _ _ _) g
    rw [ev, he] at this
    exact this
  refine newT_of fun H1 g1 s1 => newT_of fun H2 g2 s2 => newT_of fun H3 g3 s3 => ?_
  have g := (g1.trans g2).trans g3
  refine join_of (fun s H' => G H H' ∧ s = [[.bool (decide (¬ (fMay f ∧ mkOk m)))]]) (fun K hK => ?_) ?_
  · refine c_fault_Check (hv.g g) hl fun H4 g4 => ?_
    have g := g.trans g4
    try simp only [sv_cons, sv_cons1, sc_cons, sc_cons1, asB_bool, ifB_true, ifB_false, un_not, bin_lss, bin_leq, bin_gtr, bin_geq, bin_eql, bin_neq, bin_add, bin_sub, bin_mul, ok_int, ok_bool, ok_slice, ok_str, ok_ptr, ok_map, ok_func, ok_iface, ok_nil, List.all_cons, List.all_nil, Bool.and_true, Bool.true_and, seg, setSeg, List.drop_succ_cons, List.drop_zero, List.take_succ_cons, List.take_zero, List.cons_append, List.nil_append, List.append_nil, List.length_cons, List.length_nil, List.drop_nil, List.size_toArray, Nat.reduceAdd, Nat.reduceLeDiff, Nat.reduceBEq, Nat.zero_add, Nat.le_refl, decide_true, mkV, List.headD_cons, cellsV, w_fldV, w_ext, w_fldP, List.getElem?_toArray, List.getElem?_cons_zero, List.getElem?_cons_succ, beq_self_eq_true, selV]
    have e1 : chkE f ≠ 0 ↔ ¬ fMay f := by
      unfold chkE
      split
      · rename_i h; simp [h]
      · rename_i h; simp [h]
    refine ifD_of (fun c1 => hK _ _ ⟨g, jb_t fun h => e1.1 c1 h.1⟩) (fun c1 => ?_)
    refine c_fault_mark fun H5 g5 => ?_
    try simp only [sv_cons, sv_cons1, sc_cons, sc_cons1, asB_bool, ifB_true, ifB_false, un_not, bin_lss, bin_leq, bin_gtr, bin_geq, bin_eql, bin_neq, bin_add, bin_sub, bin_mul, ok_int, ok_bool, ok_slice, ok_str, ok_ptr, ok_map, ok_func, ok_iface, ok_nil, List.all_cons, List.all_nil, Bool.and_true, Bool.true_and, seg, setSeg, List.drop_succ_cons, List.drop_zero, List.take_succ_cons, List.take_zero, List.cons_append, List.nil_append, List.append_nil, List.length_cons, List.length_nil, List.drop_nil, List.size_toArray, Nat.reduceAdd, Nat.reduceLeDiff, Nat.reduceBEq, Nat.zero_add, Nat.le_refl, decide_true, mkV, List.headD_cons, cellsV, w_fldV, w_ext, w_fldP, List.getElem?_toArray, List.getElem?_cons_zero, List.getElem?_cons_succ, beq_self_eq_true, selV]
    rw [← decide_not]
    have hf : fMay f := Classical.byContradiction fun h => c1 (e1.2 h)
    exact hK _ _ ⟨g.trans g5, jb_d ⟨fun h h2 => h h2.2, fun h h2 => h ⟨hf, h2⟩⟩⟩
  rintro s H4 ⟨g, rfl⟩
  try simp only [sv_cons, sv_cons1, sc_cons, sc_cons1, asB_bool, ifB_true, ifB_false, un_not, bin_lss, bin_leq, bin_gtr, bin_geq, bin_eql, bin_neq, bin_add, bin_sub, bin_mul, ok_int, ok_bool, ok_slice, ok_str, ok_ptr, ok_map, ok_func, ok_iface, ok_nil, List.all_cons, List.all_nil, Bool.and_true, Bool.true_and, seg, setSeg, List.drop_succ_cons, List.drop_zero, List.take_succ_cons, List.take_zero, List.cons_append, List.nil_append, List.append_nil, List.length_cons, List.length_nil, List.drop_nil, List.size_toArray, Nat.reduceAdd, Nat.reduceLeDiff, Nat.reduceBEq, Nat.zero_add, Nat.le_refl, decide_true, mkV, List.headD_cons, cellsV, w_fldV, w_ext, w_fldP, List.getElem?_toArray, List.getElem?_cons_zero, List.getElem?_cons_succ, beq_self_eq_true, selV]
  refine ifD_of (fun c1 => bad 8 _ (by unfold wrapE; rw [if_neg c1]) (by omega) g) (fun c1 => ?_)
  have c1 := Decidable.not_not.1 c1
  have h8 := c1.1.1.2
  refine (hv.g g).len ?_
  try simp only [sv_cons, sv_cons1, sc_cons, sc_cons1, asB_bool, ifB_true, ifB_false, un_not, bin_lss, bin_leq, bin_gtr, bin_geq, bin_eql, bin_neq, bin_add, bin_sub, bin_mul, ok_int, ok_bool, ok_slice, ok_str, ok_ptr, ok_map, ok_func, ok_iface, ok_nil, List.all_cons, List.all_nil, Bool.and_true, Bool.true_and, seg, setSeg, List.drop_succ_cons, List.drop_zero, List.take_succ_cons, List.take_zero, List.cons_append, List.nil_append, List.append_nil, List.length_cons, List.length_nil, List.drop_nil, List.size_toArray, Nat.reduceAdd, Nat.reduceLeDiff, Nat.reduceBEq, Nat.zero_add, Nat.le_refl, decide_true, mkV, List.headD_cons, cellsV, w_fldV, w_ext, w_fldP, List.getElem?_toArray, List.getElem?_cons_zero, List.getElem?_cons_succ, beq_self_eq_true, selV]
  refine ifD_of (fun c2 => bad 4 _ (by unfold wrapE; rw [if_pos c1, if_pos (by omega)]) (by omega) g) (fun c2 => ?_)
  have e0 : wrapE f m = 0 := by unfold wrapE; rw [if_pos c1, if_neg (by omega)]
  have ev : wrapV f m = ⟨f.code, m :: f.marks⟩ := by unfold wrapV; rw [if_pos e0]
  rw [e0, ev] at hQ
  have hgs := g.size
  refine join_of (fun s H' => ∃ u, s = [[.int .i64 f.code, u], [.int .i64 0]] ∧ okc u = true ∧ Sl rMk H' (fun y => H.size ≤ y) u (m :: f.marks) ∧ G H H') (fun K hK => ⟨?_, ?_⟩) ?_
  · refine c_Clone_mk (hv.g g) hl fun u H5 b5 hu g5 hb5 => ?_
    have hul := hu.lt
    refine bld_one (A := fun _ => False) (vrep_mk hm) rfl (fun h => by cases h) rfl fun t H6 ht g6 s6 => ?_
    have ht := ht.mono (A' := fun _ => False) fun y hy _ => hy.1
    have hz5 := g5.size
    refine c_Insert_mk (i := 0) (hu.g g6) ht (Nat.zero_le _) (by simp) (by omega) (fun y hy _ => hy.elim False.elim False.elim) (by simp; omega) fun w H7 b7 hw f7 hb7 => ?_
    rw [insL_0] at hw
    have hw : Ow rMk H7 b7 (fun _ => False) w (m :: f.marks) := ow_mk hw
    have g7 : G H H7 := ((g.trans g5).trans g6).then f7 fun y hy => show y + 1 ≠ b5 by omega
    try simp only [sv_cons, sv_cons1, sc_cons, sc_cons1, asB_bool, ifB_true, ifB_false, un_not, bin_lss, bin_leq, bin_gtr, bin_geq, bin_eql, bin_neq, bin_add, bin_sub, bin_mul, ok_int, ok_bool, ok_slice, ok_str, ok_ptr, ok_map, ok_func, ok_iface, ok_nil, List.all_cons, List.all_nil, Bool.and_true, Bool.true_and, seg, setSeg, List.drop_succ_cons, List.drop_zero, List.take_succ_cons, List.take_zero, List.cons_append, List.nil_append, List.append_nil, List.length_cons, List.length_nil, List.drop_nil, List.size_toArray, Nat.reduceAdd, Nat.reduceLeDiff, Nat.reduceBEq, Nat.zero_add, Nat.le_refl, decide_true, mkV, List.headD_cons, cellsV, w_fldV, w_ext, w_fldP, List.getElem?_toArray, List.getElem?_cons_zero, List.getElem?_cons_succ, beq_self_eq_true, selV, hw.okcv]
    exact hK _ _ ⟨w, rfl, hw.okcv, hw.slF fun k hk => by have := g6.size; omega, g7⟩
  · refine bld_one (A := fun _ => False) (vrep_mk hm) rfl (fun h => by cases h) rfl fun t H5 ht g5 s5 => ?_
    have ht := ht.mono (A' := fun _ => False) fun y hy _ => hy.1
    refine c_Clone_mk (hv.g (g.trans g5)) hl fun u H6 b6 hu g6 hb6 => ?_
    have hul := hu.lt
    have hz6 := g6.size
    refine c_Insert_mk (i := 0) hu (ht.g g6) (Nat.zero_le _) (by simp) (by omega) (fun y hy _ => hy.elim False.elim False.elim) (by simp; omega) fun w H7 b7 hw f7 hb7 => ?_
    rw [insL_0] at hw
    have hw : Ow rMk H7 b7 (fun _ => False) w (m :: f.marks) := ow_mk hw
    have g7 : G H H7 := ((g.trans g5).trans g6).then f7 fun y hy => show y + 1 ≠ b6 by omega
    try simp only [sv_cons, sv_cons1, sc_cons, sc_cons1, asB_bool, ifB_true, ifB_false, un_not, bin_lss, bin_leq, bin_gtr, bin_geq, bin_eql, bin_neq, bin_add, bin_sub, bin_mul, ok_int, ok_bool, ok_slice, ok_str, ok_ptr, ok_map, ok_func, ok_iface, ok_nil, List.all_cons, List.all_nil, Bool.and_true, Bool.true_and, seg, setSeg, List.drop_succ_cons, List.drop_zero, List.take_succ_cons, List.take_zero, List.cons_append, List.nil_append, List.append_nil, List.length_cons, List.length_nil, List.drop_nil, List.size_toArray, Nat.reduceAdd, Nat.reduceLeDiff, Nat.reduceBEq, Nat.zero_add, Nat.le_refl, decide_true, mkV, List.headD_cons, cellsV, w_fldV, w_ext, w_fldP, List.getElem?_toArray, List.getElem?_cons_zero, List.getElem?_cons_succ, beq_self_eq_true, selV, hw.okcv]
    exact hK _ _ ⟨w, rfl, hw.okcv, hw.slF fun k hk => by omega, g7⟩
  · rintro s H5 ⟨u, rfl, hok, hu, g5⟩
    try simp only [sv_cons, sv_cons1, sc_cons, sc_cons1, asB_bool, ifB_true, ifB_false, un_not, bin_lss, bin_leq, bin_gtr, bin_geq, bin_eql, bin_neq, bin_add, bin_sub, bin_mul, ok_int, ok_bool, ok_slice, ok_str, ok_ptr, ok_map, ok_func, ok_iface, ok_nil, List.all_cons, List.all_nil, Bool.and_true, Bool.true_and, seg, setSeg, List.drop_succ_cons, List.drop_zero, List.take_succ_cons, List.take_zero, List.cons_append, List.nil_append, List.append_nil, List.length_cons, List.length_nil, List.drop_nil, List.size_toArray, Nat.reduceAdd, Nat.reduceLeDiff, Nat.reduceBEq, Nat.zero_add, Nat.le_refl, decide_true, mkV, List.headD_cons, cellsV, w_fldV, w_ext, w_fldP, List.getElem?_toArray, List.getElem?_cons_zero, List.getElem?_cons_succ, beq_self_eq_true, selV]
    exact hQ u H5 hu g5

theorem c_ref06_Wrap {f : Flt} {m : Mk} {v : Value} (hv : Sl rMk H A v f.marks) (hl : f.marks.length ≤ 1000000) (hm : i64 m.level ∧ i64 m.place)
    (hQ : ∀ u H', Sl rMk H' (fun y => H.size ≤ y) u (wrapV f m).marks → G H H' → Q (tupP (.agg #[.int .i64 (wrapV f m).code, u]) (.int .i64 (wrapE f m))) H') :
    callV Tryd.prog (fnV fn_ref06_Wrap) [.agg #[.int .i64 f.code, v], vMk m] H Q := by
  apply S_ref06_Wrap_of
  unfold S_ref06_Wrap
  have hv := hv.old
  have bad : ∀ e H', wrapE f m = e → e ≠ 0 → G H H' → Q (tupP (.agg #[.int .i64 0, .slice none 0 0]) (.int .i64 e)) H' := fun e H' he hne g => by
    have ev : wrapV f m = ⟨0, []⟩ := by unfold wrapV; rw [he, if_neg hne]
    have := hQ (.slice none 0 0) H' (by rw [ev]; exact Sl.nil _ _ _ _ _) g
    rw [ev, he] at this
    exact this
  refine newT_of fun H1 g1 s1 => newT_of fun H2 g2 s2 => newT_of fun H3 g3 s3 => ?_
  have g := (g1.trans g2).trans g3
  refine join_of (fun s H' => G H H' ∧ s = [[.bool (decide (¬ (fMay f ∧ mkOk m)))]]) (fun K hK => ?_) ?_
  · refine c_ref06_May (hv.g g) hl fun H4 g4 => ?_
    have g := g.trans g4
    try simp only [sv_cons, sv_cons1, sc_cons, sc_cons1, asB_bool, ifB_true, ifB_false, un_not, bin_lss, bin_leq, bin_gtr, bin_geq, bin_eql, bin_neq, bin_add, bin_sub, bin_mul, ok_int, ok_bool, ok_slice, ok_str, ok_ptr, ok_map, ok_func, ok_iface, ok_nil, List.all_cons, List.all_nil, Bool.and_true, Bool.true_and, seg, setSeg, List.drop_succ_cons, List.drop_zero, List.take_succ_cons, List.take_zero, List.cons_append, List.nil_append, List.append_nil, List.length_cons, List.length_nil, List.drop_nil, List.size_toArray, Nat.reduceAdd, Nat.reduceLeDiff, Nat.reduceBEq, Nat.zero_add, Nat.le_refl, decide_true, mkV, List.headD_cons, cellsV, w_fldV, w_ext, w_fldP, List.getElem?_toArray, List.getElem?_cons_zero, List.getElem?_cons_succ, beq_self_eq_true, selV]
    rw [← decide_not]
    refine ifD_of (fun c1 => hK _ _ ⟨g, jb_t fun h => c1 h.1⟩) (fun c1 => ?_)
    refine c_ref06_mark fun H5 g5 => ?_
    try simp only [sv_cons, sv_cons1, sc_cons, sc_cons1, asB_bool, ifB_true, ifB_false, un_not, bin_lss, bin_leq, bin_gtr, bin_geq, bin_eql, bin_neq, bin_add, bin_sub, bin_mul, ok_int, ok_bool, ok_slice, ok_str, ok_ptr, ok_map, ok_func, ok_iface, ok_nil, List.all_cons, List.all_nil, Bool.and_true, Bool.true_and, seg, setSeg, List.drop_succ_cons, List.drop_zero, List.take_succ_cons, List.take_zero, List.cons_append, List.nil_append, List.append_nil, List.length_cons, List.length_nil, List.drop_nil, List.size_toArray, Nat.reduceAdd, Nat.reduceLeDiff, Nat.reduceBEq, Nat.zero_add, Nat.le_refl, decide_true, mkV, List.headD_cons, cellsV, w_fldV, w_ext, w_fldP, List.getElem?_toArray, List.getElem?_cons_zero, List.getElem?_cons_succ, beq_self_eq_true, selV]
    rw [← decide_not]
    exact hK _ _ ⟨g.trans g5, jb_d ⟨fun h h2 => h h2.2, fun h h2 => h ⟨Decidable.not_not.1 c1, h2⟩⟩⟩
  rintro s H4 ⟨g, rfl⟩
  try simp only [sv_cons, sv_cons1, sc_cons, sc_cons1, asB_bool, ifB_true, ifB_false, un_not, bin_lss, bin_leq, bin_gtr, bin_geq, bin_eql, bin_neq, bin_add, bin_sub, bin_mul, ok_int, ok_bool, ok_slice, ok_str, ok_ptr, ok_map, ok_func, ok_iface, ok_nil, List.all_cons, List.all_nil, Bool.and_true, Bool.true_and, seg, setSeg, List.drop_succ_cons, List.drop_zero, List.take_succ_cons, List.take_zero, List.cons_append, List.nil_append, List.append_nil, List.length_cons, List.length_nil, List.drop_nil, List.size_toArray, Nat.reduceAdd, Nat.reduceLeDiff, Nat.reduceBEq, Nat.zero_add, Nat.le_refl, decide_true, mkV, List.headD_cons, cellsV, w_fldV, w_ext, w_fldP, List.getElem?_toArray, List.getElem?_cons_zero, List.getElem?_cons_succ, beq_self_eq_true, selV]
  refine ifD_of (fun c1 => bad 8 _ (by unfold wrapE; rw [if_neg c1]) (by omega) g) (fun c1 => ?_)
  have c1 := Decidable.not_not.1 c1
  have h8 := c1.1.1.2
  refine (hv.g g).len ?_
  try simp only [sv_cons, sv_cons1, sc_cons, sc_cons1, asB_bool, ifB_true, ifB_false, un_not, bin_lss, bin_leq, bin_gtr, bin_geq, bin_eql, bin_neq, bin_add, bin_sub, bin_mul, ok_int, ok_bool, ok_slice, ok_str, ok_ptr, ok_map, ok_func, ok_iface, ok_nil, List.all_cons, List.all_nil, Bool.and_true, Bool.true_and, seg, setSeg, List.drop_succ_cons, List.drop_zero, List.take_succ_cons, List.take_zero, List.cons_append, List.nil_append, List.append_nil, List.length_cons, List.length_nil, List.drop_nil, List.size_toArray, Nat.reduceAdd, Nat.reduceLeDiff, Nat.reduceBEq, Nat.zero_add, Nat.le_refl, decide_true, mkV, List.headD_cons, cellsV, w_fldV, w_ext, w_fldP, List.getElem?_toArray, List.getElem?_cons_zero, List.getElem?_cons_succ, beq_self_eq_true, selV]
  refine ifD_of (fun c2 => bad 4 _ (by unfold wrapE; rw [if_pos c1, if_pos (by omega)]) (by omega) g) (fun c2 => ?_)
  have e0 : wrapE f m = 0 := by unfold wrapE; rw [if_pos c1, if_neg (by omega)]
  have ev : wrapV f m = ⟨f.code, m :: f.marks⟩ := by unfold wrapV; rw [if_pos e0]
  rw [e0, ev] at hQ
  have hgs := g.size
  refine bld_one (A := fun _ => False) (vrep_mk hm) rfl (fun h => by cases h) rfl fun t H5 ht g5 s5 => ?_
  have ht := ht.mono (A' := fun _ => False) fun y hy _ => hy.1
  refine ht.app (hv.g (g.trans g5)).src rfl (by decide) rfl (fun y hy _ => hy.elim False.elim fun hh => by omega) (by simp; omega) (by simp; omega) fun w H6 bw hw f6 hbw _ => ?_
  have hw : Ow rMk H6 bw (fun _ => False) w (m :: f.marks) := ow_mk hw
  try simp only [sv_cons, sv_cons1, sc_cons, sc_cons1, asB_bool, ifB_true, ifB_false, un_not, bin_lss, bin_leq, bin_gtr, bin_geq, bin_eql, bin_neq, bin_add, bin_sub, bin_mul, ok_int, ok_bool, ok_slice, ok_str, ok_ptr, ok_map, ok_func, ok_iface, ok_nil, List.all_cons, List.all_nil, Bool.and_true, Bool.true_and, seg, setSeg, List.drop_succ_cons, List.drop_zero, List.take_succ_cons, List.take_zero, List.cons_append, List.nil_append, List.append_nil, List.length_cons, List.length_nil, List.drop_nil, List.size_toArray, Nat.reduceAdd, Nat.reduceLeDiff, Nat.reduceBEq, Nat.zero_add, Nat.le_refl, decide_true, mkV, List.headD_cons, cellsV, w_fldV, w_ext, w_fldP, List.getElem?_toArray, List.getElem?_cons_zero, List.getElem?_cons_succ, beq_self_eq_true, selV, hw.okcv]
  exact hQ w H6 (hw.slF fun k hk => by omega) ((g.trans g5).then f6 fun y hy => show y + 1 ≠ H4.size + 1 by omega)

/-! ### Opened -/

theorem c_fault_Open {f : Flt} {v : Value} (hv : Sl rMk H A v f.marks) (hl : f.marks.length ≤ 1000000) (h0 : AtC H (fun _ => True) (.pointer (some ⟨0, 0, none⟩)) [rtV 48])
    (hQ : ∀ u H', Sl rMk H' (fun y => H.size ≤ y) u (openV f).marks → G H H' → Q (tupT (.agg #[.int .i64 (openV f).code, u]) (vMk (openM f)) (.int .i64 (openE f))) H') :
    callV Tryd.prog (fnV fn_fault_Open) [.agg #[.int .i64 f.code, v]] H Q := by
  apply S_fault_Open_of
  unfold S_fault_Open
  have hv := hv.old
  have bad : ∀ e H', openE f = e → e ≠ 0 → G H H' → Q (tupT (.agg #[.int .i64 0, .slice none 0 0]) (vMk ⟨0, 0⟩) (.int .i64 e)) H' := fun e H' he hne g => by
    have ev : openV f = ⟨0, []⟩ := by unfold openV; rw [he, if_neg hne]
    have em : openM f = ⟨0, 0⟩ := by unfold openM; rw [he, if_neg hne]
    have := hQ (.slice none 0 0) H' (by rw [ev]; exact Sl.nil _ _ _ _ _) g
    rw [ev, em, he] at this
    exact this
  refine newT_of fun H1 g1 s1 => newT_of fun H2 g2 s2 => newT_of fun H3 g3 s3 => ?_
  have g := (g1.trans g2).trans g3
  refine c_fault_Check (hv.g g) hl fun H4 g4 => ?_
  have g := g.trans g4
  have e1 : chkE f ≠ 0 ↔ ¬ fMay f := by
    unfold chkE
    split
    · rename_i h; simp [h]
    · rename_i h; simp [h]
  try simp only [sv_cons, sv_cons1, sc_cons, sc_cons1, asB_bool, ifB_true, ifB_false, un_not, bin_lss, bin_leq, bin_gtr, bin_geq, bin_eql, bin_neq, bin_add, bin_sub, bin_mul, ok_int, ok_bool, ok_slice, ok_str, ok_ptr, ok_map, ok_func, ok_iface, ok_nil, List.all_cons, List.all_nil, Bool.and_true, Bool.true_and, seg, setSeg, List.drop_succ_cons, List.drop_zero, List.take_succ_cons, List.take_zero, List.cons_append, List.nil_append, List.append_nil, List.length_cons, List.length_nil, List.drop_nil, List.size_toArray, Nat.reduceAdd, Nat.reduceLeDiff, Nat.reduceBEq, Nat.zero_add, Nat.le_refl, decide_true, mkV, List.headD_cons, cellsV, w_fldV, w_ext, w_fldP, List.getElem?_toArray, List.getElem?_cons_zero, List.getElem?_cons_succ, beq_self_eq_true, selV]
  refine ifD_of (fun c1 => ?_) (fun c1 => ?_)
  · have hf := e1.1 c1
    have : chkE f = 8 := by unfold chkE; rw [if_neg hf]
    rw [this]
    exact bad 8 _ (by unfold openE; rw [if_neg hf]) (by omega) g
  have hf : fMay f := Classical.byContradiction fun h => c1 (e1.2 h)
  refine newC_bx fun H5 b6 g5 s5 => ?_
  have g := g.trans g5
  refine c_fault_chain (code := f.code) (hv.g g) hl fun er H6 hch hok g6 => ?_
  have b6 := b6.g g6
  have g := g.trans g6
  have hs4 := g4.size
  have hsz := g.size
  have hz5 : H.size ≤ H4.size := by have := g1.size; have := g2.size; have := g3.size; omega
  cases hmk : f.marks with
  | nil =>
    rw [hmk] at hch
    have he : er = .iface 74 (.agg #[.int .i64 f.code]) := hch
    subst he
    refine c_errors_As ⟨_, _, rfl⟩ (h0.g g) b6 fun H7 a ba bt hne g7 => ?_
    refine c_errors_as_bare rfl fun H8 g8 => ?_
    try simp only [sv_cons, sv_cons1, sc_cons, sc_cons1, asB_bool, ifB_true, ifB_false, un_not, bin_lss, bin_leq, bin_gtr, bin_geq, bin_eql, bin_neq, bin_add, bin_sub, bin_mul, ok_int, ok_bool, ok_slice, ok_str, ok_ptr, ok_map, ok_func, ok_iface, ok_nil, List.all_cons, List.all_nil, Bool.and_true, Bool.true_and, seg, setSeg, List.drop_succ_cons, List.drop_zero, List.take_succ_cons, List.take_zero, List.cons_append, List.nil_append, List.append_nil, List.length_cons, List.length_nil, List.drop_nil, List.size_toArray, Nat.reduceAdd, Nat.reduceLeDiff, Nat.reduceBEq, Nat.zero_add, Nat.le_refl, decide_true, mkV, List.headD_cons, cellsV, w_fldV, w_ext, w_fldP, List.getElem?_toArray, List.getElem?_cons_zero, List.getElem?_cons_succ, beq_self_eq_true, selV, Bool.not_false]
    exact bad 6 _ (by unfold openE; rw [if_pos hf, hmk]; rfl) (by omega) ((g.trans g7).trans g8)
  | cons m r =>
    rw [hmk] at hch
    obtain ⟨e, z, rfl, be⟩ := hch
    have e0 : openE f = 0 := by unfold openE; rw [if_pos hf, hmk]; rfl
    have ev : openV f = ⟨f.code, r⟩ := by unfold openV; rw [if_pos e0, hmk]; rfl
    have em : openM f = m := by unfold openM; rw [if_pos e0, hmk]; rfl
    rw [e0, ev, em] at hQ
    refine c_errors_As ⟨_, _, rfl⟩ (h0.g g) b6 fun H7 a ba bt hne g7 => ?_
    refine c_errors_as_hit ba bt hne fun H8 b8 f8 => ?_
    have hne6 : e ≠ H4.size := fun h => by
      subst h
      obtain ⟨t1, h1⟩ := b6
      obtain ⟨t2, h2⟩ := be
      rw [h1] at h2
      simp at h2
    have be8 := (be.g g7).up f8 hne6
    have g8 : G H H8 := (g.trans g7).then f8 fun y hy => show y ≠ H4.size by omega
    try simp only [sv_cons, sv_cons1, sc_cons, sc_cons1, asB_bool, ifB_true, ifB_false, un_not, bin_lss, bin_leq, bin_gtr, bin_geq, bin_eql, bin_neq, bin_add, bin_sub, bin_mul, ok_int, ok_bool, ok_slice, ok_str, ok_ptr, ok_map, ok_func, ok_iface, ok_nil, List.all_cons, List.all_nil, Bool.and_true, Bool.true_and, seg, setSeg, List.drop_succ_cons, List.drop_zero, List.take_succ_cons, List.take_zero, List.cons_append, List.nil_append, List.append_nil, List.length_cons, List.length_nil, List.drop_nil, List.size_toArray, Nat.reduceAdd, Nat.reduceLeDiff, Nat.reduceBEq, Nat.zero_add, Nat.le_refl, decide_true, mkV, List.headD_cons, cellsV, w_fldV, w_ext, w_fldP, List.getElem?_toArray, List.getElem?_cons_zero, List.getElem?_cons_succ, beq_self_eq_true, selV, Bool.not_true]
    have hml : 0 < f.marks.length := by rw [hmk]; simp
    refine (hv.g g8).cut (n := 2) (lo := 1) (hi := f.marks.length) rfl hml (by omega) (Nat.le_refl _) optI_some optI_none fun q hq => ?_
    have eq : (f.marks.drop 1).take (f.marks.length - 1) = r := by rw [hmk]; simp
    rw [eq] at hq
    refine b8.load rfl ?_
    try simp only [sv_cons, sv_cons1, sc_cons, sc_cons1, asB_bool, ifB_true, ifB_false, un_not, bin_lss, bin_leq, bin_gtr, bin_geq, bin_eql, bin_neq, bin_add, bin_sub, bin_mul, ok_int, ok_bool, ok_slice, ok_str, ok_ptr, ok_map, ok_func, ok_iface, ok_nil, List.all_cons, List.all_nil, Bool.and_true, Bool.true_and, seg, setSeg, List.drop_succ_cons, List.drop_zero, List.take_succ_cons, List.take_zero, List.cons_append, List.nil_append, List.append_nil, List.length_cons, List.length_nil, List.drop_nil, List.size_toArray, Nat.reduceAdd, Nat.reduceLeDiff, Nat.reduceBEq, Nat.zero_add, Nat.le_refl, decide_true, mkV, List.headD_cons, cellsV, w_fldV, w_ext, w_fldP, List.getElem?_toArray, List.getElem?_cons_zero, List.getElem?_cons_succ, beq_self_eq_true, selV, nilV]
    refine be8.loadF (by simp) ?_
    try simp only [sv_cons, sv_cons1, sc_cons, sc_cons1, asB_bool, ifB_true, ifB_false, un_not, bin_lss, bin_leq, bin_gtr, bin_geq, bin_eql, bin_neq, bin_add, bin_sub, bin_mul, ok_int, ok_bool, ok_slice, ok_str, ok_ptr, ok_map, ok_func, ok_iface, ok_nil, List.all_cons, List.all_nil, Bool.and_true, Bool.true_and, seg, setSeg, List.drop_succ_cons, List.drop_zero, List.take_succ_cons, List.take_zero, List.cons_append, List.nil_append, List.append_nil, List.length_cons, List.length_nil, List.drop_nil, List.size_toArray, Nat.reduceAdd, Nat.reduceLeDiff, Nat.reduceBEq, Nat.zero_add, Nat.le_refl, decide_true, mkV, List.headD_cons, cellsV, w_fldV, w_ext, w_fldP, List.getElem?_toArray, List.getElem?_cons_zero, List.getElem?_cons_succ, beq_self_eq_true, selV]
    refine c_Clone_mk hq (by rw [hmk] at hl; simp at hl; omega) fun u H9 b9 hu g9 hb9 => ?_
    have b8 := b8.g g9
    have be9 := be8.g g9
    have hz8 := g8.size
    refine ⟨be9.loadF (by simp) rfl, b8.load rfl rfl, ?_⟩
    try simp only [sv_cons, sv_cons1, sc_cons, sc_cons1, asB_bool, ifB_true, ifB_false, un_not, bin_lss, bin_leq, bin_gtr, bin_geq, bin_eql, bin_neq, bin_add, bin_sub, bin_mul, ok_int, ok_bool, ok_slice, ok_str, ok_ptr, ok_map, ok_func, ok_iface, ok_nil, List.all_cons, List.all_nil, Bool.and_true, Bool.true_and, seg, setSeg, List.drop_succ_cons, List.drop_zero, List.take_succ_cons, List.take_zero, List.cons_append, List.nil_append, List.append_nil, List.length_cons, List.length_nil, List.drop_nil, List.size_toArray, Nat.reduceAdd, Nat.reduceLeDiff, Nat.reduceBEq, Nat.zero_add, Nat.le_refl, decide_true, mkV, List.headD_cons, cellsV, w_fldV, w_ext, w_fldP, List.getElem?_toArray, List.getElem?_cons_zero, List.getElem?_cons_succ, beq_self_eq_true, selV, hu.okcv]
    refine ⟨be9.loadF (by simp) rfl, b8.load rfl rfl, ?_⟩
    try simp only [sv_cons, sv_cons1, sc_cons, sc_cons1, asB_bool, ifB_true, ifB_false, un_not, bin_lss, bin_leq, bin_gtr, bin_geq, bin_eql, bin_neq, bin_add, bin_sub, bin_mul, ok_int, ok_bool, ok_slice, ok_str, ok_ptr, ok_map, ok_func, ok_iface, ok_nil, List.all_cons, List.all_nil, Bool.and_true, Bool.true_and, seg, setSeg, List.drop_succ_cons, List.drop_zero, List.take_succ_cons, List.take_zero, List.cons_append, List.nil_append, List.append_nil, List.length_cons, List.length_nil, List.drop_nil, List.size_toArray, Nat.reduceAdd, Nat.reduceLeDiff, Nat.reduceBEq, Nat.zero_add, Nat.le_refl, decide_true, mkV, List.headD_cons, cellsV, w_fldV, w_ext, w_fldP, List.getElem?_toArray, List.getElem?_cons_zero, List.getElem?_cons_succ, beq_self_eq_true, selV]
    exact hQ u H9 (hu.slF fun k hk => by omega) (g8.trans g9)

theorem c_ref06_Open {f : Flt} {v : Value} (hv : Sl rMk H A v f.marks) (hl : f.marks.length ≤ 1000000)
    (hQ : ∀ u H', Sl rMk H' (fun y => H.size ≤ y) u (openV f).marks → G H H' → Q (tupT (.agg #[.int .i64 (openV f).code, u]) (vMk (openM f)) (.int .i64 (openE f))) H') :
    callV Tryd.prog (fnV fn_ref06_Open) [.agg #[.int .i64 f.code, v]] H Q := by
  apply S_ref06_Open_of
  unfold S_ref06_Open
  have hv := hv.old
  have bad : ∀ e H', openE f = e → e ≠ 0 → G H H' → Q (tupT (.agg #[.int .i64 0, .slice none 0 0]) (vMk ⟨0, 0⟩) (.int .i64 e)) H' := fun e H' he hne g => by
    have ev : openV f = ⟨0, []⟩ := by unfold openV; rw [he, if_neg hne]
    have em : openM f = ⟨0, 0⟩ := by unfold openM; rw [he, if_neg hne]
    have := hQ (.slice none 0 0) H' (by rw [ev]; exact Sl.nil _ _ _ _ _) g
    rw [ev, em, he] at this
    exact this
  refine newT_of fun H1 g1 s1 => newT_of fun H2 g2 s2 => newT_of fun H3 g3 s3 => ?_
  have g := (g1.trans g2).trans g3
  refine c_ref06_May (hv.g g) hl fun H4 g4 => ?_
  have g := g.trans g4
  try simp only [sv_cons, sv_cons1, sc_cons, sc_cons1, asB_bool, ifB_true, ifB_false, un_not, bin_lss, bin_leq, bin_gtr, bin_geq, bin_eql, bin_neq, bin_add, bin_sub, bin_mul, ok_int, ok_bool, ok_slice, ok_str, ok_ptr, ok_map, ok_func, ok_iface, ok_nil, List.all_cons, List.all_nil, Bool.and_true, Bool.true_and, seg, setSeg, List.drop_succ_cons, List.drop_zero, List.take_succ_cons, List.take_zero, List.cons_append, List.nil_append, List.append_nil, List.length_cons, List.length_nil, List.drop_nil, List.size_toArray, Nat.reduceAdd, Nat.reduceLeDiff, Nat.reduceBEq, Nat.zero_add, Nat.le_refl, decide_true, mkV, List.headD_cons, cellsV, w_fldV, w_ext, w_fldP, List.getElem?_toArray, List.getElem?_cons_zero, List.getElem?_cons_succ, beq_self_eq_true, selV]
  rw [← decide_not]
  refine ifD_of (fun c1 => bad 8 _ (by unfold openE; rw [if_neg c1]) (by omega) g) (fun c1 => ?_)
  have hf := Decidable.not_not.1 c1
  refine (hv.g g).len ?_
  try simp only [sv_cons, sv_cons1, sc_cons, sc_cons1, asB_bool, ifB_true, ifB_false, un_not, bin_lss, bin_leq, bin_gtr, bin_geq, bin_eql, bin_neq, bin_add, bin_sub, bin_mul, ok_int, ok_bool, ok_slice, ok_str, ok_ptr, ok_map, ok_func, ok_iface, ok_nil, List.all_cons, List.all_nil, Bool.and_true, Bool.true_and, seg, setSeg, List.drop_succ_cons, List.drop_zero, List.take_succ_cons, List.take_zero, List.cons_append, List.nil_append, List.append_nil, List.length_cons, List.length_nil, List.drop_nil, List.size_toArray, Nat.reduceAdd, Nat.reduceLeDiff, Nat.reduceBEq, Nat.zero_add, Nat.le_refl, decide_true, mkV, List.headD_cons, cellsV, w_fldV, w_ext, w_fldP, List.getElem?_toArray, List.getElem?_cons_zero, List.getElem?_cons_succ, beq_self_eq_true, selV]
  refine ifD_of (fun c2 => bad 6 _ (by unfold openE; rw [if_pos hf, if_pos (by omega)]) (by omega) g) (fun c2 => ?_)
  have hml : 0 < f.marks.length := by omega
  have e0 : openE f = 0 := by unfold openE; rw [if_pos hf, if_neg (by omega)]
  have hx : f.marks[0]? = some f.marks[0] := List.getElem?_eq_getElem hml
  have ev : openV f = ⟨f.code, f.marks.drop 1⟩ := by unfold openV; rw [if_pos e0]
  have em : openM f = f.marks[0] := by
    unfold openM
    rw [if_pos e0, List.headD_eq_head?_getD, List.head?_eq_getElem?, hx]
    rfl
  rw [e0, ev, em] at hQ
  have hgs := g.size
  refine (hv.g g).cut (n := 2) (lo := 1) (hi := f.marks.length) rfl hml (by omega) (Nat.le_refl _) optI_some optI_none fun q hq => ?_
  have eq : (f.marks.drop 1).take (f.marks.length - 1) = f.marks.drop 1 := List.take_of_length_le (by rw [List.length_drop]; omega)
  rw [eq] at hq
  have hat := (hv.g g).at (kd := .i64) (j := 0) rfl hx (k := fun p => AtC H4 (fun y => y < H.size) p [.int .i64 f.marks[0].level, .int .i64 f.marks[0].place]) fun p cs hp hr => by
    obtain ⟨rfl, _⟩ := hr
    exact hp
  refine (hv.g g).at (j := 0) rfl hx fun p cs hp hr => ?_
  obtain ⟨rfl, _⟩ := hr
  refine hp.load rfl ?_
  refine bld_nil rMk fun t H5 ht g5 s5 => ⟨(hp.g g5).load rfl rfl, ?_⟩
  refine ht.app (hq.g g5).src rfl (by decide) rfl (fun y hy _ => hy.elim False.elim fun hh => by omega) (by simp; omega) (by simp; omega) fun w H6 bw hw f6 hbw _ => ?_
  rw [List.nil_append] at hw
  have hw : Ow rMk H6 bw (fun _ => False) w (f.marks.drop 1) := ow_mk hw
  have hp6 := (hp.g g5).up f6 fun y hy _ => show y + 1 ≠ H4.size + 1 by omega
  refine ⟨hp6.load rfl rfl, ?_⟩
  try simp only [sv_cons, sv_cons1, sc_cons, sc_cons1, asB_bool, ifB_true, ifB_false, un_not, bin_lss, bin_leq, bin_gtr, bin_geq, bin_eql, bin_neq, bin_add, bin_sub, bin_mul, ok_int, ok_bool, ok_slice, ok_str, ok_ptr, ok_map, ok_func, ok_iface, ok_nil, List.all_cons, List.all_nil, Bool.and_true, Bool.true_and, seg, setSeg, List.drop_succ_cons, List.drop_zero, List.take_succ_cons, List.take_zero, List.cons_append, List.nil_append, List.append_nil, List.length_cons, List.length_nil, List.drop_nil, List.size_toArray, Nat.reduceAdd, Nat.reduceLeDiff, Nat.reduceBEq, Nat.zero_add, Nat.le_refl, decide_true, mkV, List.headD_cons, cellsV, w_fldV, w_ext, w_fldP, List.getElem?_toArray, List.getElem?_cons_zero, List.getElem?_cons_succ, beq_self_eq_true, selV, hw.okcv]
  refine ⟨hp6.load rfl rfl, ?_⟩
  try simp only [sv_cons, sv_cons1, sc_cons, sc_cons1, asB_bool, ifB_true, ifB_false, un_not, bin_lss, bin_leq, bin_gtr, bin_geq, bin_eql, bin_neq, bin_add, bin_sub, bin_mul, ok_int, ok_bool, ok_slice, ok_str, ok_ptr, ok_map, ok_func, ok_iface, ok_nil, List.all_cons, List.all_nil, Bool.and_true, Bool.true_and, seg, setSeg, List.drop_succ_cons, List.drop_zero, List.take_succ_cons, List.take_zero, List.cons_append, List.nil_append, List.append_nil, List.length_cons, List.length_nil, List.drop_nil, List.size_toArray, Nat.reduceAdd, Nat.reduceLeDiff, Nat.reduceBEq, Nat.zero_add, Nat.le_refl, decide_true, mkV, List.headD_cons, cellsV, w_fldV, w_ext, w_fldP, List.getElem?_toArray, List.getElem?_cons_zero, List.getElem?_cons_succ, beq_self_eq_true, selV]
  exact hQ w H6 (hw.slF fun k hk => by omega) ((g.trans g5).then f6 fun y hy => show y + 1 ≠ H4.size + 1 by omega)

end Go.Proofs.YtioaanmeooonfaaDoor
