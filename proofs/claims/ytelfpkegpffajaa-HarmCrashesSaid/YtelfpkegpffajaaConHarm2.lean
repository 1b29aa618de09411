/- Contracts: a device that is harmed. -/
import Derived.Test.YtelfpkegpffajaaConHarm1
import Derived.Test.YtelfpkegpffajaaAbSeg
namespace Go.Proofs.Ytelfpkegpffajaa
open Go.Ab Go.Md
set_option linter.unusedVariables false
set_option linter.unusedSimpArgs false
set_option maxRecDepth 20000

variable {H : Heap} {Q : Value → Heap → Prop} {A B C : Nat → Prop}

theorem mid_blank' {c : Cfg} (hc : c.may) : Mid (blankD c) := by
  refine ⟨by unfold blankD; rw [List.length_map]; have := c.all_len; omega, fun x hx => ?_⟩
  unfold blankD at hx
  obtain ⟨l, hl, rfl⟩ := List.mem_map.1 hx
  obtain ⟨_, _, _, _, o1, o2, o3, o4⟩ := Cfg.all_ok hc.1 l hl
  have hm := many_bound o1 o2
  refine ⟨by simp; omega, fun b hb => ?_⟩
  rw [List.mem_replicate] at hb
  rw [hb.2]; simp; omega

theorem taV_same {P : Program} {t : TypeId} {u : Value} {k : Value → Prop} (h : ∃ fs, P.underlying t = some (.struct fs)) (hk : k (.tuple #[u, .bool true])) : taV P t true (.iface t u) k := by
  obtain ⟨fs, h⟩ := h
  unfold taV
  rw [h]
  simp only [beq_self_eq_true]
  exact hk

theorem c_Do1_none {a8 a9 : Nat} {k : Heap → Prop} (hk : k H) : callD Try.prog (.func (.func fn_harm_Do_1) #[] #[.pointer (some ⟨a8, 0, none⟩), .pointer (some ⟨a9, 0, none⟩)]) none H k := by
  refine S_harm_Do_1_of (z := .nilIface) (.inl ⟨rfl, rfl⟩) ?_
  unfold S_harm_Do_1
  simp only [nilEq]
  try simp only [sv_cons, sv_cons1, sc_cons, sc_cons1, asB_bool, ifB_true, ifB_false, un_not, bin_lss, bin_leq, bin_gtr, bin_geq, bin_eql, bin_neq, bin_add, bin_sub, bin_mul, ok_int, ok_bool, ok_slice, ok_str, ok_ptr, ok_map, ok_func, ok_iface, ok_nil, List.all_cons, List.all_nil, Bool.and_true, Bool.true_and, seg, setSeg, List.drop_succ_cons, List.drop_zero, List.take_succ_cons, List.take_zero, List.cons_append, List.nil_append, List.append_nil, List.length_cons, List.length_nil, List.drop_nil, List.size_toArray, Nat.reduceAdd, Nat.reduceLeDiff, Nat.reduceBEq, Nat.zero_add, Nat.le_refl, decide_true, mkV, List.headD_cons, cellsV, w_fldV, w_ext, w_fldP, List.getElem?_toArray, List.getElem?_cons_zero, List.getElem?_cons_succ, beq_self_eq_true, selV]
  exact join_of (fun s H1 => H1 = H) (fun K hK => hK _ _ rfl) fun s H1 e => e ▸ hk

theorem c_Do1_odd {a8 a9 : Nat} {x y : Value} {k : Heap → Prop} (h8 : Bx H a8 [x]) (h9 : Bx H a9 [y]) (hne : a8 ≠ a9) (hk : ∀ H', Bx H' a8 [.slice none 0 0] → Bx H' a9 [.int .i64 2] → Fr (fun y => y ≠ a8 ∧ y ≠ a9) H H' → k H') :
    callD Try.prog (.func (.func fn_harm_Do_1) #[] #[.pointer (some ⟨a8, 0, none⟩), .pointer (some ⟨a9, 0, none⟩)]) (some [oddE]) H k := by
  refine S_harm_Do_1_of (z := .iface ty_harm_odd (.agg #[])) (.inr rfl) ?_
  unfold S_harm_Do_1
  simp only [nilEq]
  try simp only [sv_cons, sv_cons1, sc_cons, sc_cons1, asB_bool, ifB_true, ifB_false, un_not, bin_lss, bin_leq, bin_gtr, bin_geq, bin_eql, bin_neq, bin_add, bin_sub, bin_mul, ok_int, ok_bool, ok_slice, ok_str, ok_ptr, ok_map, ok_func, ok_iface, ok_nil, List.all_cons, List.all_nil, Bool.and_true, Bool.true_and, seg, setSeg, List.drop_succ_cons, List.drop_zero, List.take_succ_cons, List.take_zero, List.cons_append, List.nil_append, List.append_nil, List.length_cons, List.length_nil, List.drop_nil, List.size_toArray, Nat.reduceAdd, Nat.reduceLeDiff, Nat.reduceBEq, Nat.zero_add, Nat.le_refl, decide_true, mkV, List.headD_cons, cellsV, w_fldV, w_ext, w_fldP, List.getElem?_toArray, List.getElem?_cons_zero, List.getElem?_cons_succ, beq_self_eq_true, selV]
  refine join_of (fun s H' => Bx H' a8 [.slice none 0 0] ∧ Bx H' a9 [.int .i64 2] ∧ Fr (fun y => y ≠ a8 ∧ y ≠ a9) H H') (fun K hK => ?_) fun s H' ⟨k1, k2, k3⟩ => hk H' k1 k2 k3
  refine taV_same ⟨#[], by kernel_rfl⟩ ?_
  try simp only [sv_cons, sv_cons1, sc_cons, sc_cons1, asB_bool, ifB_true, ifB_false, un_not, bin_lss, bin_leq, bin_gtr, bin_geq, bin_eql, bin_neq, bin_add, bin_sub, bin_mul, ok_int, ok_bool, ok_slice, ok_str, ok_ptr, ok_map, ok_func, ok_iface, ok_nil, List.all_cons, List.all_nil, Bool.and_true, Bool.true_and, seg, setSeg, List.drop_succ_cons, List.drop_zero, List.take_succ_cons, List.take_zero, List.cons_append, List.nil_append, List.append_nil, List.length_cons, List.length_nil, List.drop_nil, List.size_toArray, Nat.reduceAdd, Nat.reduceLeDiff, Nat.reduceBEq, Nat.zero_add, Nat.le_refl, decide_true, mkV, List.headD_cons, cellsV, w_fldV, w_ext, w_fldP, List.getElem?_toArray, List.getElem?_cons_zero, List.getElem?_cons_succ, beq_self_eq_true, selV]
  refine join_of (fun s H' => Bx H' a8 [.slice none 0 0] ∧ Bx H' a9 [.int .i64 2] ∧ Fr (fun y => y ≠ a8 ∧ y ≠ a9) H H') (fun K hK => ?_) fun s H' h => hK _ _ h
  have l8 := h8.lt
  have l9 := h9.lt
  refine newC_bx fun H1 h3 g1 s1 => h3.storeA (c := []) rfl rfl rfl fun H2 h3 f2 s2 => ?_
  refine (((h8.g g1).up f2 (by omega)).storeA (c := [.slice none 0 0]) rfl rfl rfl) fun H3 h8 f3 s3 => ?_
  refine ((((h9.g g1).up f2 (by omega)).up f3 (show a9 ≠ a8 from fun e => hne e.symm)).store rfl) fun H4 h9 f4 s4 => ?_
  refine hK _ _ ⟨h8.up f4 hne, h9, ?_⟩
  refine ⟨by have := g1.size; omega, fun y hy hne => ?_⟩
  rw [f4.same y (by have := g1.size; omega) hne.2, f3.same y (by have := g1.size; omega) hne.1, f2.same y (by have := g1.size; omega) (by omega), g1.same y hy trivial]

theorem callP_ofV {P : Program} {f : FuncId} {args : List Value} {R : List PanicEntry → Heap → Prop} (h : callV P (fnV f) args H Q) : callP P (fnV f) args H Q R := callP_of h

theorem ovBy : ∃ (fn : Func) (tS tR e : TypeId), Try.prog.funcs[fn_slices_overlaps_byte]? = some fn ∧ (fn.name == "runtime.NumGoroutine") = false ∧ fn.body.isNone = true ∧ Extern.findNext fn = none ∧
    Extern.find fn = some (Extern.SlicesOverlaps.overlaps #[tS, tS] #[tR]) ∧ Try.prog.underlying tS = some (.slice e) ∧ szOf Try.prog e = some 1 :=
  ⟨(match Try.prog.funcs[fn_slices_overlaps_byte]? with | some f => f | none => Try.f0),
   ((match Try.prog.funcs[fn_slices_overlaps_byte]? with | some f => f | none => Try.f0).params.getD 0 0), ((match Try.prog.funcs[fn_slices_overlaps_byte]? with | some f => f | none => Try.f0).resultTypes.getD 0 0),
   (match Try.prog.underlying ((match Try.prog.funcs[fn_slices_overlaps_byte]? with | some f => f | none => Try.f0).params.getD 0 0) with | some (.slice e) => e | _ => 0),
   by kernel_rfl, by kernel_rfl, by kernel_rfl, by kernel_rfl, by kernel_rfl, by kernel_rfl, by kernel_rfl⟩

theorem c_Insert_by {v u : Value} {xs ys : List Value} {b b2 i : Nat} (h : Ow rV H b A v xs) (hu : Ow rV H b2 B u ys) (hi : i ≤ xs.length) (hy : 0 < ys.length) (hb2 : b2 ≠ b) (hd : ∀ y, (A y ∨ B y) → y < H.size → y + 1 ≠ b)
    (hl : xs.length + ys.length ≤ 1000000) (hQ : ∀ w H' b', Ow rV H' b' (fun y => (A y ∨ B y) ∧ y < H.size) w (insL xs i ys) → Fr (fun y => y + 1 ≠ b) H H' → (b' = b ∨ b' = H.size + 1) → Q w H') :
    callV Try.prog (fnV fn_slices_Insert_byte_byte) [v, .int .i64 (i : Int), u] H Q := by
  apply S_slices_Insert_byte_byte_of
  obtain ⟨fn, tS, tR, e, q1, q2, q3, q4, q5, q6, q7⟩ := ovBy
  exact ins_of (R := rV) (n := 1) (rot := fun t91 t14 H K => callV Try.prog (fnV fn_slices_rotateRight_byte) [t91, t14] H K) h hu rfl (by decide) rfl hi hy hb2 hd (by omega) (by omega)
    (fun ka kb oa ob la ca lb cb xa xb ea eb K h1 h2 h3 h4 h5 => xc_apart q1 q2 q3 q4 q5 q6 q7 h1 h2 h3 h4 h5) hQ

/-! ### Shapes -/

theorem may_blank {c : Cfg} (hc : c.may) : may c (blankD c) = true := by
  unfold may
  simp only [Bool.and_eq_true, decide_eq_true_eq]
  refine ⟨hc, mayF_iff.2 ⟨by unfold blankD; simp, fun i l x hl hx => ?_⟩⟩
  unfold blankD at hx
  rw [List.getElem?_map, hl] at hx
  simp only [Option.map_some, Option.some.injEq] at hx
  obtain ⟨_, _, _, _, o1, o2, o3, o4⟩ := Cfg.all_ok hc.1 l (List.mem_of_getElem? hl)
  have hm := many_bound o1 o2
  unfold levelOk
  subst hx
  simp only [Bool.and_eq_true, beq_iff_eq, List.all_eq_true]
  refine ⟨by simp; omega, fun b hb => ?_⟩
  rw [List.mem_replicate] at hb
  rw [hb.2]; simp; omega

theorem may_shape {c : Cfg} {d e : Dv} (h1 : may c d = true) (h2 : may c e = true) : d.length = e.length ∧ ∀ level : Int, 0 ≤ level → level < d.length → (lvlOf d level).length = (lvlOf e level).length ∧ bkSize d level = bkSize e level := by
  have hl : d.length = e.length := by
    unfold may at h1 h2
    simp only [Bool.and_eq_true] at h1 h2
    rw [mayF_len h1.2, mayF_len h2.2]
  refine ⟨hl, fun level h0 h => ?_⟩
  have g1 := lvl_get (d := d) ⟨h0, h⟩
  have g2 := lvl_get (d := e) (level := level) ⟨h0, by omega⟩
  obtain ⟨l1, a1, a2, a3, a4⟩ := may_level h1 g1
  obtain ⟨l2, b1, b2, b3, b4⟩ := may_level h2 g2
  have p1 := may_pos h1 g1
  have p2 := may_pos h2 g2
  rw [a1] at b1; cases b1
  have k1 := bk_get (d := d) (level := level) (b := 1) ⟨by omega, by omega⟩
  have k2 := bk_get (d := e) (level := level) (b := 1) ⟨by omega, by omega⟩
  refine ⟨by omega, ?_⟩
  unfold bkSize
  rw [a4 _ (List.mem_of_getElem? k1), b4 _ (List.mem_of_getElem? k2)]

theorem seeOk_shape {c : Cfg} {d e : Dv} (h1 : may c d = true) (h2 : may c e = true) {s : See} (h : seeOk d s = true) : seeOk e s = true := by
  obtain ⟨hl, hs⟩ := may_shape h1 h2
  obtain ⟨k, ⟨l0, l1⟩, hb⟩ := seeOk_iff.1 h
  have := hs s.level l0.1 l0.2
  exact seeOk_iff.2 ⟨k, ⟨⟨l0.1, by omega⟩, by omega⟩, by rw [← this.2]; exact hb⟩

theorem rep_zero {c : Cfg} {d : Dv} {ss : List See} (h : repE c d ss = 0) : may c d = true ∧ ∀ s ∈ ss, seeOk d s = true := by
  unfold repE at h
  split at h
  · rename_i hm
    split at h
    · rename_i ha; exact ⟨hm, List.all_eq_true.1 ha⟩
    · omega
  · omega
theorem rep_of {c : Cfg} {d : Dv} {ss : List See} (h1 : may c d = true) (h2 : ∀ s ∈ ss, seeOk d s = true) : repE c d ss = 0 := by
  unfold repE; rw [if_pos h1, if_pos (List.all_eq_true.2 h2)]

theorem may_may {c : Cfg} {d : Dv} (h : may c d = true) : c.may := by
  unfold may at h; simp only [Bool.and_eq_true, decide_eq_true_eq] at h; exact h.1

theorem rep_blank {c : Cfg} {d : Dv} {ss : List See} (h : repE c d ss = 0) (n : Nat) : repE c (blankD c) (firstW ss n) = 0 := by
  obtain ⟨h1, h2⟩ := rep_zero h
  have hb := may_blank (may_may h1)
  exact rep_of hb fun s hs => seeOk_shape h1 hb (h2 s (firstW_sub s hs))

end Go.Proofs.Ytelfpkegpffajaa
