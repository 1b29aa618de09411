/- Contracts: a device that is harmed, all of it. -/
import Derived.Test.YtelfpkegpffajaaConHarm2
namespace Go.Proofs.Ytelfpkegpffajaa
open Go.Ab Go.Md
set_option linter.unusedVariables false
set_option linter.unusedSimpArgs false
set_option maxRecDepth 20000

variable {H : Heap} {Q : Value → Heap → Prop} {A B C : Nat → Prop}

theorem All2.consL {α β : Type} {R : α → β → Prop} {xs : List α} {ys : List β} {x : α} {y : β} (h : All2 R xs ys) (hxy : R x y) : All2 R (x :: xs) (y :: ys) := by
  refine ⟨by simp [h.1], fun i a b ha hb => ?_⟩
  cases i with
  | zero => simp at ha hb; subst ha; subst hb; exact hxy
  | succ i => exact h.2 i a b (by simpa using ha) (by simpa using hb)

theorem toNat8 {n : Nat} (h : n < 256) : (UInt8.ofNat n).toNat = n := by
  rw [UInt8.toNat_ofNat']; exact Nat.mod_eq_of_lt h

theorem hasBk_put {d : Dv} {l b l' b' : Int} {x : By} (h : hasBk d l' b' = true) : hasBk (putB d l b x) l' b' = true := by
  obtain ⟨⟨h1, h2⟩, h3, h4⟩ := hasBk_iff.1 h
  have e1 : (putB d l b x).length = d.length := by unfold putB; simp
  have e2 : (lvlOf (putB d l b x) l').length = (lvlOf d l').length := by
    unfold lvlOf putB
    rw [List.getD_eq_getElem?_getD, List.getElem?_set]
    split
    · rename_i e
      split
      · simp only [Option.getD_some, List.length_set]; unfold lvlOf; rw [e]
      · rename_i hl
        rw [List.getD_eq_getElem?_getD, List.getElem?_eq_none (by omega)]
    · rw [List.getD_eq_getElem?_getD]
  exact hasBk_iff.2 ⟨⟨h1, by omega⟩, h3, by omega⟩

theorem c_harm_Do {c : Cfg} {a l : Value} {d : Dv} {ss : List See} {h : Hm} (ha : Sl rBys H A a d) (hl : Sl rSee H B l ss) (hd : Mid d) (hs : SeesOk ss) (hs2 : ss.length ≤ 10000) (hh : h.ok)
    (hQ : ∀ v O F H', Dn H.size H' O F v (doD c d ss h) → G H H' → Q (tup2 (.agg #[v]) (.int .i64 (doE c d ss h))) H') :
    callV Try.prog (fnV fn_harm_Do) [.agg (cCfg c).toArray, .agg #[a], l, .agg (cHm h).toArray] H Q := by
  apply S_harm_Do_of
  unfold S_harm_Do
  have ha := ha.old
  have hl := hl.old
  obtain ⟨hk, hlev, hha, hhb, hat, hmk⟩ := hh
  refine newT_of fun H1 g1 s1 => newT_of fun H2 g2 s2 => newT_of fun H3 g3 s3 => newC_bx fun H4 h8 g4 s4 => newC_bx fun H5 h9 g5 s5 => ?_
  have h8 := h8.g g5
  have g := (((g1.trans g2).trans g3).trans g4).trans g5
  have hnone : ∀ H', Dn H.size H' (fun _ => False) (fun _ => False) (.slice none 0 0) [] := fun H' => ⟨DvO.nil _ _ _ fun y h => h.elim, fun y h => h.elim False.elim False.elim⟩
  -- the end by what may not be
  have bad : ∀ H' x y, Bx H' H3.size [x] → Bx H' H4.size [y] → G H H' → repE c d ss = 0 → mayH d ss h = false →
      callD Try.prog (.func (.func fn_harm_Do_1) #[] #[.pointer (some ⟨H3.size, 0, none⟩), .pointer (some ⟨H4.size, 0, none⟩)]) (some [oddE]) H' (fun H =>
        loadP true 1 (.pointer (some ⟨H3.size, 0, none⟩)) H fun r8 => loadP false 1 (.pointer (some ⟨H4.size, 0, none⟩)) H fun r9 => Q (.tuple #[r8, r9]) H) := by
    intro H' x y k8 k9 g hr hm
    refine c_Do1_odd k8 k9 (by omega) fun H6 k8 k9 f6 => k8.load rfl (k9.load rfl ?_)
    try simp only [sv_cons, sv_cons1, sc_cons, sc_cons1, asB_bool, ifB_true, ifB_false, un_not, bin_lss, bin_leq, bin_gtr, bin_geq, bin_eql, bin_neq, bin_add, bin_sub, bin_mul, ok_int, ok_bool, ok_slice, ok_str, ok_ptr, ok_map, ok_func, ok_iface, ok_nil, List.all_cons, List.all_nil, Bool.and_true, Bool.true_and, seg, setSeg, List.drop_succ_cons, List.drop_zero, List.take_succ_cons, List.take_zero, List.cons_append, List.nil_append, List.append_nil, List.length_cons, List.length_nil, List.drop_nil, List.size_toArray, Nat.reduceAdd, Nat.reduceLeDiff, Nat.reduceBEq, Nat.zero_add, Nat.le_refl, decide_true, mkV, List.headD_cons, cellsV, w_fldV, w_ext, w_fldP, List.getElem?_toArray, List.getElem?_cons_zero, List.getElem?_cons_succ, beq_self_eq_true, selV]
    have he : doE c d ss h = 2 := by unfold doE; rw [if_neg (by omega), hm]; rfl
    have := hQ (.slice none 0 0) _ _ H6 (by unfold doD; rw [he]; exact hnone H6) (g.then f6 fun y hy => ⟨by omega, by omega⟩)
    rw [he] at this
    exact this
  -- the end by what is
  have good : ∀ H' v O F y, Bx H' H3.size [v] → Bx H' H4.size [y] → G H H' → repE c d ss = 0 → mayH d ss h = true → Dn H.size H' O F v (doneH c d ss h) → y = .int .i64 0 →
      callD Try.prog (.func (.func fn_harm_Do_1) #[] #[.pointer (some ⟨H3.size, 0, none⟩), .pointer (some ⟨H4.size, 0, none⟩)]) none H' (fun H =>
        loadP true 1 (.pointer (some ⟨H3.size, 0, none⟩)) H fun r8 => loadP false 1 (.pointer (some ⟨H4.size, 0, none⟩)) H fun r9 => Q (.tuple #[r8, r9]) H) := by
    rintro H' v O F y k8 k9 g hr hm hdn rfl
    refine c_Do1_none (k8.load rfl (k9.load rfl ?_))
    try simp only [sv_cons, sv_cons1, sc_cons, sc_cons1, asB_bool, ifB_true, ifB_false, un_not, bin_lss, bin_leq, bin_gtr, bin_geq, bin_eql, bin_neq, bin_add, bin_sub, bin_mul, ok_int, ok_bool, ok_slice, ok_str, ok_ptr, ok_map, ok_func, ok_iface, ok_nil, List.all_cons, List.all_nil, Bool.and_true, Bool.true_and, seg, setSeg, List.drop_succ_cons, List.drop_zero, List.take_succ_cons, List.take_zero, List.cons_append, List.nil_append, List.append_nil, List.length_cons, List.length_nil, List.drop_nil, List.size_toArray, Nat.reduceAdd, Nat.reduceLeDiff, Nat.reduceBEq, Nat.zero_add, Nat.le_refl, decide_true, mkV, List.headD_cons, cellsV, w_fldV, w_ext, w_fldP, List.getElem?_toArray, List.getElem?_cons_zero, List.getElem?_cons_succ, beq_self_eq_true, selV]
    have he : doE c d ss h = 0 := by unfold doE; rw [if_neg (by omega), hm]; rfl
    have := hQ v O F H' (by unfold doD; rw [if_pos he]; exact hdn) g
    rw [he] at this
    exact this
  refine callP_ofV (c_dev_Replay (ha.g g) (hl.g g) hd hs fun v O F H6 hdn g6 => ?_)
  try simp only [sv_cons, sv_cons1, sc_cons, sc_cons1, asB_bool, ifB_true, ifB_false, un_not, bin_lss, bin_leq, bin_gtr, bin_geq, bin_eql, bin_neq, bin_add, bin_sub, bin_mul, ok_int, ok_bool, ok_slice, ok_str, ok_ptr, ok_map, ok_func, ok_iface, ok_nil, List.all_cons, List.all_nil, Bool.and_true, Bool.true_and, seg, setSeg, List.drop_succ_cons, List.drop_zero, List.take_succ_cons, List.take_zero, List.cons_append, List.nil_append, List.append_nil, List.length_cons, List.length_nil, List.drop_nil, List.size_toArray, Nat.reduceAdd, Nat.reduceLeDiff, Nat.reduceBEq, Nat.zero_add, Nat.le_refl, decide_true, mkV, List.headD_cons, cellsV, w_fldV, w_ext, w_fldP, List.getElem?_toArray, List.getElem?_cons_zero, List.getElem?_cons_succ, beq_self_eq_true, selV]
  refine newT_of fun H7 g7 s7 => ?_
  have h8 := (h8.g g6).g g7
  have h9 := (h9.g g6).g g7
  have g := (g.trans g6).trans g7
  try simp only [sv_cons, sv_cons1, sc_cons, sc_cons1, asB_bool, ifB_true, ifB_false, un_not, bin_lss, bin_leq, bin_gtr, bin_geq, bin_eql, bin_neq, bin_add, bin_sub, bin_mul, ok_int, ok_bool, ok_slice, ok_str, ok_ptr, ok_map, ok_func, ok_iface, ok_nil, List.all_cons, List.all_nil, Bool.and_true, Bool.true_and, seg, setSeg, List.drop_succ_cons, List.drop_zero, List.take_succ_cons, List.take_zero, List.cons_append, List.nil_append, List.append_nil, List.length_cons, List.length_nil, List.drop_nil, List.size_toArray, Nat.reduceAdd, Nat.reduceLeDiff, Nat.reduceBEq, Nat.zero_add, Nat.le_refl, decide_true, mkV, List.headD_cons, cellsV, w_fldV, w_ext, w_fldP, List.getElem?_toArray, List.getElem?_cons_zero, List.getElem?_cons_succ, beq_self_eq_true, selV, hdn.dv.okcv]
  refine ifD_of (fun hr => ?_) (fun hr => ?_)
  · refine h8.load rfl ?_
    refine h8.storeA (c := [.slice none 0 0]) rfl rfl rfl fun H8 h8 f8 s8 => ?_
    refine (h9.up f8 (show H4.size ≠ H3.size by omega)).store rfl fun H9 h9 f9 s9 => ?_
    have h8 := h8.up f9 (show H3.size ≠ H4.size by omega)
    refine h8.load rfl (h9.load rfl ?_)
    try simp only [sv_cons, sv_cons1, sc_cons, sc_cons1, asB_bool, ifB_true, ifB_false, un_not, bin_lss, bin_leq, bin_gtr, bin_geq, bin_eql, bin_neq, bin_add, bin_sub, bin_mul, ok_int, ok_bool, ok_slice, ok_str, ok_ptr, ok_map, ok_func, ok_iface, ok_nil, List.all_cons, List.all_nil, Bool.and_true, Bool.true_and, seg, setSeg, List.drop_succ_cons, List.drop_zero, List.take_succ_cons, List.take_zero, List.cons_append, List.nil_append, List.append_nil, List.length_cons, List.length_nil, List.drop_nil, List.size_toArray, Nat.reduceAdd, Nat.reduceLeDiff, Nat.reduceBEq, Nat.zero_add, Nat.le_refl, decide_true, mkV, List.headD_cons, cellsV, w_fldV, w_ext, w_fldP, List.getElem?_toArray, List.getElem?_cons_zero, List.getElem?_cons_succ, beq_self_eq_true, selV]
    have he : doE c d ss h = repE c d ss := by unfold doE; rw [if_pos hr]
    have := hQ (.slice none 0 0) _ _ H9 (by unfold doD; rw [he, if_neg hr]; exact hnone H9) ((g.then f8 fun y hy => by omega).then f9 fun y hy => by omega)
    rw [he] at this
    exact this
  have hr : repE c d ss = 0 := Decidable.not_not.1 hr
  obtain ⟨hmay, hok⟩ := rep_zero hr
  have hcm := may_may hmay
  have hby : ∀ s ∈ ss, s.bytes.length ≤ 1000000 := fun s hm => seeOk_len hd (hok s hm)
  refine ifD_of (fun k5 => ?_) (fun k5 => ?_)
  · -- a crash
    refine callP_ofV (c_dev_New fun v8 H8 hv8 g8 => ?_)
    try simp only [sv_cons, sv_cons1, sc_cons, sc_cons1, asB_bool, ifB_true, ifB_false, un_not, bin_lss, bin_leq, bin_gtr, bin_geq, bin_eql, bin_neq, bin_add, bin_sub, bin_mul, ok_int, ok_bool, ok_slice, ok_str, ok_ptr, ok_map, ok_func, ok_iface, ok_nil, List.all_cons, List.all_nil, Bool.and_true, Bool.true_and, seg, setSeg, List.drop_succ_cons, List.drop_zero, List.take_succ_cons, List.take_zero, List.cons_append, List.nil_append, List.append_nil, List.length_cons, List.length_nil, List.drop_nil, List.size_toArray, Nat.reduceAdd, Nat.reduceLeDiff, Nat.reduceBEq, Nat.zero_add, Nat.le_refl, decide_true, mkV, List.headD_cons, cellsV, w_fldV, w_ext, w_fldP, List.getElem?_toArray, List.getElem?_cons_zero, List.getElem?_cons_succ, beq_self_eq_true, selV]
    refine newT_of fun H9 g9 s9 => ?_
    try simp only [sv_cons, sv_cons1, sc_cons, sc_cons1, asB_bool, ifB_true, ifB_false, un_not, bin_lss, bin_leq, bin_gtr, bin_geq, bin_eql, bin_neq, bin_add, bin_sub, bin_mul, ok_int, ok_bool, ok_slice, ok_str, ok_ptr, ok_map, ok_func, ok_iface, ok_nil, List.all_cons, List.all_nil, Bool.and_true, Bool.true_and, seg, setSeg, List.drop_succ_cons, List.drop_zero, List.take_succ_cons, List.take_zero, List.cons_append, List.nil_append, List.append_nil, List.length_cons, List.length_nil, List.drop_nil, List.size_toArray, Nat.reduceAdd, Nat.reduceLeDiff, Nat.reduceBEq, Nat.zero_add, Nat.le_refl, decide_true, mkV, List.headD_cons, cellsV, w_fldV, w_ext, w_fldP, List.getElem?_toArray, List.getElem?_cons_zero, List.getElem?_cons_succ, beq_self_eq_true, selV, hv8.okcv]
    rw [if_pos hcm] at hv8
    have h8 := (h8.g g8).g g9
    have h9 := (h9.g g8).g g9
    have g := (g.trans g8).trans g9
    refine c_harm_behind (hl.g g) (by have := hs.len; omega) hat (fun q1 q2 w H10 hw g10 => ?_) fun hn H10 g10 => bad _ _ _ (h8.g g10) (h9.g g10) (g.trans g10) hr (by
      unfold mayH; rw [if_pos k5]; exact decide_eq_false (by omega))
    have hrb := rep_blank hr h.at'.toNat
    have hsl := firstW_len (l := ss) (n := h.at'.toNat)
    refine callP_ofV (c_dev_Replay ((hv8.g g9).g g10) hw (mid_blank' hcm) ⟨by have := hs.len; omega, fun s hs' => hs.r64 s (firstW_sub s hs')⟩ fun v11 O11 F11 H11 hdn11 g11 => ?_)
    rw [hrb, if_pos rfl] at hdn11
    try simp only [sv_cons, sv_cons1, sc_cons, sc_cons1, asB_bool, ifB_true, ifB_false, un_not, bin_lss, bin_leq, bin_gtr, bin_geq, bin_eql, bin_neq, bin_add, bin_sub, bin_mul, ok_int, ok_bool, ok_slice, ok_str, ok_ptr, ok_map, ok_func, ok_iface, ok_nil, List.all_cons, List.all_nil, Bool.and_true, Bool.true_and, seg, setSeg, List.drop_succ_cons, List.drop_zero, List.take_succ_cons, List.take_zero, List.cons_append, List.nil_append, List.append_nil, List.length_cons, List.length_nil, List.drop_nil, List.size_toArray, Nat.reduceAdd, Nat.reduceLeDiff, Nat.reduceBEq, Nat.zero_add, Nat.le_refl, decide_true, mkV, List.headD_cons, cellsV, w_fldV, w_ext, w_fldP, List.getElem?_toArray, List.getElem?_cons_zero, List.getElem?_cons_succ, beq_self_eq_true, selV]
    have h8 := (h8.g g10).g g11
    have h9 := (h9.g g10).g g11
    have g := (g.trans g10).trans g11
    have hz := g10.size
    have hz2 := h9.lt
    have hin := hdn11.inO
    have hlt9 : H4.size < H10.size := by have := g9.size; have := g8.size; have := g6.size; have := g7.size; omega
    refine h8.storeA (c := [v11]) rfl rfl (by simp [hdn11.dv.okcv]) fun H12 h8 f12 s12 => ?_
    refine (h9.up f12 (show H4.size ≠ H3.size by omega)).store (by rw [hrb]; rfl) fun H13 h9 f13 s13 => ?_
    have h8 := h8.up f13 (show H3.size ≠ H4.size by omega)
    refine good H13 v11 O11 F11 _ h8 h9 ((g.then f12 fun y hy => by omega).then f13 fun y hy => by omega) hr (by unfold mayH; rw [if_pos k5]; exact decide_eq_true ⟨q1, q2⟩) ⟨?_, fun y hy => ?_⟩ (by rw [hrb])
    · unfold doneH
      rw [if_pos k5]
      exact (hdn11.dv.up f12 fun y hy _ => show y ≠ H3.size by have := hin y hy; omega).up f13 fun y hy _ => show y ≠ H4.size by have := hin y hy; omega
    · have := hin y hy
      have := g.size
      omega
  -- a copy
  refine callP_ofV (c_dev_TwinX (ha.g g) hd fun v H8 hc8 => ?_)
  obtain ⟨O, F, bo, bs, vs, hx, hOF⟩ := hc8.out
  have g8 := hc8.g
  have h8 := h8.g g8
  have h9 := h9.g g8
  have hlt9 : H4.size < H7.size := by have := g6.size; omega
  have gs := g.size
  have g := g.trans g8
  refine h8.storeA (c := [v]) rfl rfl (by simp [hc8.okcv]) fun H9 h8 f9 s9 => ?_
  have h9 := h9.up f9 (show H4.size ≠ H3.size by omega)
  have g := g.then f9 fun y hy => by omega
  have hx := hx.up f9 fun y hy _ => show y ≠ H3.size by have := hOF y hy; omega
  refine h8.load rfl ?_
  try simp only [sv_cons, sv_cons1, sc_cons, sc_cons1, asB_bool, ifB_true, ifB_false, un_not, bin_lss, bin_leq, bin_gtr, bin_geq, bin_eql, bin_neq, bin_add, bin_sub, bin_mul, ok_int, ok_bool, ok_slice, ok_str, ok_ptr, ok_map, ok_func, ok_iface, ok_nil, List.all_cons, List.all_nil, Bool.and_true, Bool.true_and, seg, setSeg, List.drop_succ_cons, List.drop_zero, List.take_succ_cons, List.take_zero, List.cons_append, List.nil_append, List.append_nil, List.length_cons, List.length_nil, List.drop_nil, List.size_toArray, Nat.reduceAdd, Nat.reduceLeDiff, Nat.reduceBEq, Nat.zero_add, Nat.le_refl, decide_true, mkV, List.headD_cons, cellsV, w_fldV, w_ext, w_fldP, List.getElem?_toArray, List.getElem?_cons_zero, List.getElem?_cons_succ, beq_self_eq_true, selV]
  have nok : hasBk d h.level h.a = false → mayH d ss h = false := fun hb => by
    unfold mayH; rw [if_neg k5, if_pos (.inr (.inr hb))]
  refine c_harm_bucket hx.dv hd (fun hb H10 g10 => ?_) fun hb H10 g10 => bad _ _ _ (h8.g g10) (h9.g g10) (g.trans g10) hr (nok hb)
  have h8 := h8.g g10
  have h9 := h9.g g10
  have g := g.trans g10
  have hx := hx.g g10
  refine callP_ofV (c_harm_Versions (hl.g g) hs2 (fun s hm => by have := hby s hm; omega) fun vo bo' ws F1 H11 hcl => ?_)
  have g11 := hcl.g
  have h8 := h8.g g11
  have h9 := h9.g g11
  have g := g.trans g11
  have hx := hx.g g11
  have hOF : ∀ y, O y ∨ F y → H7.size ≤ y ∧ y < H10.size := fun y hy => by have := hOF y hy; have := g10.size; omega
  have hs11 := g11.size
  have hle7 : H7.size ≤ H10.size := by have := g8.size; have := g10.size; omega
  have hF1 := hcl.freshF
  have hfr1 := hcl.fresh
  have hin : ∀ {k : Int}, hasBk d h.level k = true → (0 ≤ h.level ∧ h.level < d.length) ∧ 1 ≤ k ∧ k ≤ (lvlOf d h.level).length := fun hb => hasBk_iff.1 hb
  refine join_of (fun s H' => (∃ O F, Dn H7.size H' O F v (doneH c d ss h)) ∧ Bx H' H3.size [v] ∧ Bx H' H4.size [.int .i64 0] ∧ G H H' ∧ mayH d ss h = true) (fun K hK => ?_) ?_
  rotate_left
  · rintro s H' ⟨⟨O', F', hdn'⟩, k8, k9, g', hm⟩
    refine k8.load rfl ?_
    try simp only [sv_cons, sv_cons1, sc_cons, sc_cons1, asB_bool, ifB_true, ifB_false, un_not, bin_lss, bin_leq, bin_gtr, bin_geq, bin_eql, bin_neq, bin_add, bin_sub, bin_mul, ok_int, ok_bool, ok_slice, ok_str, ok_ptr, ok_map, ok_func, ok_iface, ok_nil, List.all_cons, List.all_nil, Bool.and_true, Bool.true_and, seg, setSeg, List.drop_succ_cons, List.drop_zero, List.take_succ_cons, List.take_zero, List.cons_append, List.nil_append, List.append_nil, List.length_cons, List.length_nil, List.drop_nil, List.size_toArray, Nat.reduceAdd, Nat.reduceLeDiff, Nat.reduceBEq, Nat.zero_add, Nat.le_refl, decide_true, mkV, List.headD_cons, cellsV, w_fldV, w_ext, w_fldP, List.getElem?_toArray, List.getElem?_cons_zero, List.getElem?_cons_succ, beq_self_eq_true, selV]
    refine k8.storeA (c := [v]) rfl rfl (by simp [hdn'.dv.okcv]) fun H12 k8 f12 s12 => ?_
    refine (k9.up f12 (show H4.size ≠ H3.size by omega)).store rfl fun H13 k9 f13 s13 => ?_
    have k8 := k8.up f13 (show H3.size ≠ H4.size by omega)
    have hin' := hdn'.inO
    refine good H13 v O' F' _ k8 k9 ((g'.then f12 fun y hy => by omega).then f13 fun y hy => by omega) hr hm ⟨?_, fun y hy => ?_⟩ rfl
    · exact (hdn'.dv.up f12 fun y hy _ => show y ≠ H3.size by have := hin' y hy; omega).up f13 fun y hy _ => show y ≠ H4.size by have := hin' y hy; omega
    · have := hin' y hy
      omega
  have mOf : h.kind = 1 ∨ h.kind = 2 ∨ h.kind = 3 ∨ h.kind = 4 → ¬ (h.kind < 1 ∨ h.kind > 5 ∨ hasBk d h.level h.a = false) := fun hk => by rw [hb]; rintro (h1 | h1 | h1) <;> first | omega | cases h1
  obtain ⟨hcell, ⟨pa, hpa⟩, _, hput⟩ := hx.dv.cell hb
  have hnil : ∀ (k : Value → Prop), k (cellP vs h.level h.a) → nilV (cellP vs h.level h.a) k := fun k hk => by rw [hpa] at hk ⊢; exact hk
  refine join_of (fun s H' => ∃ (at' : Int) (w : Value) (b2 : Nat) (ws2 : List Value) (xs2 : List By) (F2 : Nat → Prop), s = [[.int .u8 h.kind, .int .i64 h.level, .int .i64 h.a, .int .i64 h.b, .int .i64 at', .int .u8 h.mask], [w]] ∧ Ow rV H' b2 (fun _ => False) w ws2 ∧
      All2 (Lf H' F2) ws2 xs2 ∧ (∀ y, F2 y → H7.size ≤ y ∧ y < H'.size ∧ ¬ O y) ∧ DvX H' O F bo bs v vs d ∧ Bx H' H3.size [v] ∧ Bx H' H4.size [.int .i64 0] ∧ G H H' ∧ mayH d ss h = decide (0 ≤ at' ∧ at' < xs2.length) ∧
      (∀ x, xs2[at'.toNat]? = some x → doneH c d ss h = putB d h.level h.a x) ∧ H10.size ≤ H'.size) (fun K4 hK4 => ?_) ?_
  · try simp only [sv_cons, sv_cons1, sc_cons, sc_cons1, asB_bool, ifB_true, ifB_false, un_not, bin_lss, bin_leq, bin_gtr, bin_geq, bin_eql, bin_neq, bin_add, bin_sub, bin_mul, ok_int, ok_bool, ok_slice, ok_str, ok_ptr, ok_map, ok_func, ok_iface, ok_nil, List.all_cons, List.all_nil, Bool.and_true, Bool.true_and, seg, setSeg, List.drop_succ_cons, List.drop_zero, List.take_succ_cons, List.take_zero, List.cons_append, List.nil_append, List.append_nil, List.length_cons, List.length_nil, List.drop_nil, List.size_toArray, Nat.reduceAdd, Nat.reduceLeDiff, Nat.reduceBEq, Nat.zero_add, Nat.le_refl, decide_true, mkV, List.headD_cons, cellsV, w_fldV, w_ext, w_fldP, List.getElem?_toArray, List.getElem?_cons_zero, List.getElem?_cons_succ, beq_self_eq_true, selV]
    refine ifD_of (fun k1 => ?_) (fun k1 => ?_)
    · -- a flip
      have hm1 : mayH d ss h = decide (0 ≤ h.at' ∧ h.at' < (bk d h.level h.a).length ∧ h.mask ≠ 0) := by
        unfold mayH; rw [if_neg k5, if_neg (mOf (.inl k1)), if_pos k1]
      obtain ⟨u, bu, hat', hou, hbu, hturn⟩ := hx.leaf hb
      refine join_of (fun s H' => H' = H11 ∧ (0 ≤ h.at' ∧ h.at' < (bk d h.level h.a).length ∧ h.mask ≠ 0)) (fun K hK2 => ?_) ?_
      · refine ifD_of (fun c1 => ?_) (fun c1 => c_harm_need (fun h => by cases h) fun _ => bad _ _ _ h8 h9 g hr (by rw [hm1]; exact decide_eq_false (by omega)))
        refine hnil _ (hat'.load rfl ?_)
        try simp only [sv_cons, sv_cons1, sc_cons, sc_cons1, asB_bool, ifB_true, ifB_false, un_not, bin_lss, bin_leq, bin_gtr, bin_geq, bin_eql, bin_neq, bin_add, bin_sub, bin_mul, ok_int, ok_bool, ok_slice, ok_str, ok_ptr, ok_map, ok_func, ok_iface, ok_nil, List.all_cons, List.all_nil, Bool.and_true, Bool.true_and, seg, setSeg, List.drop_succ_cons, List.drop_zero, List.take_succ_cons, List.take_zero, List.cons_append, List.nil_append, List.append_nil, List.length_cons, List.length_nil, List.drop_nil, List.size_toArray, Nat.reduceAdd, Nat.reduceLeDiff, Nat.reduceBEq, Nat.zero_add, Nat.le_refl, decide_true, mkV, List.headD_cons, cellsV, w_fldV, w_ext, w_fldP, List.getElem?_toArray, List.getElem?_cons_zero, List.getElem?_cons_succ, beq_self_eq_true, selV]
        refine hou.len ?_
        try simp only [sv_cons, sv_cons1, sc_cons, sc_cons1, asB_bool, ifB_true, ifB_false, un_not, bin_lss, bin_leq, bin_gtr, bin_geq, bin_eql, bin_neq, bin_add, bin_sub, bin_mul, ok_int, ok_bool, ok_slice, ok_str, ok_ptr, ok_map, ok_func, ok_iface, ok_nil, List.all_cons, List.all_nil, Bool.and_true, Bool.true_and, seg, setSeg, List.drop_succ_cons, List.drop_zero, List.take_succ_cons, List.take_zero, List.cons_append, List.nil_append, List.append_nil, List.length_cons, List.length_nil, List.drop_nil, List.size_toArray, Nat.reduceAdd, Nat.reduceLeDiff, Nat.reduceBEq, Nat.zero_add, Nat.le_refl, decide_true, mkV, List.headD_cons, cellsV, w_fldV, w_ext, w_fldP, List.getElem?_toArray, List.getElem?_cons_zero, List.getElem?_cons_succ, beq_self_eq_true, selV]
        refine ifD_of (fun c2 => ?_) (fun c2 => c_harm_need (fun h => by cases h) fun _ => bad _ _ _ h8 h9 g hr (by rw [hm1]; exact decide_eq_false (by omega)))
        refine c_harm_need (fun c3 => ⟨hou.len rfl, hat'.load rfl rfl, hK2 _ _ ⟨rfl, c1, c2, by have := of_decide_eq_true c3; omega⟩⟩) fun c3 => bad _ _ _ h8 h9 g hr (by rw [hm1]; exact decide_eq_false (by have := of_decide_eq_false c3; omega))
      rintro s H' ⟨rfl, hyes⟩
      refine hnil _ (hat'.load rfl ?_)
      try simp only [sv_cons, sv_cons1, sc_cons, sc_cons1, asB_bool, ifB_true, ifB_false, un_not, bin_lss, bin_leq, bin_gtr, bin_geq, bin_eql, bin_neq, bin_add, bin_sub, bin_mul, ok_int, ok_bool, ok_slice, ok_str, ok_ptr, ok_map, ok_func, ok_iface, ok_nil, List.all_cons, List.all_nil, Bool.and_true, Bool.true_and, seg, setSeg, List.drop_succ_cons, List.drop_zero, List.take_succ_cons, List.take_zero, List.cons_append, List.nil_append, List.append_nil, List.length_cons, List.length_nil, List.drop_nil, List.size_toArray, Nat.reduceAdd, Nat.reduceLeDiff, Nat.reduceBEq, Nat.zero_add, Nat.le_refl, decide_true, mkV, List.headD_cons, cellsV, w_fldV, w_ext, w_fldP, List.getElem?_toArray, List.getElem?_cons_zero, List.getElem?_cons_succ, beq_self_eq_true, selV]
      have hlt : h.at'.toNat < (bk d h.level h.a).length := by omega
      have hx0 : (bk d h.level h.a)[h.at'.toNat]? = some (bk d h.level h.a)[h.at'.toNat] := List.getElem?_eq_getElem hlt
      have hat0 : h.at' = ((h.at'.toNat : Nat) : Int) := by omega
      have hmk0 : h.mask = ((h.mask.toNat : Nat) : Int) := by omega
      rw [hat0]
      refine (hou.slF (A' := fun _ => True) fun _ _ => trivial).getB hx0 ?_
      rw [hmk0, w_xor (by show _ < 256; exact UInt8.toNat_lt _) (by show _ < 256; omega)]
      have hfl : flipAt (bk d h.level h.a) h.at'.toNat h.mask = (bk d h.level h.a).set h.at'.toNat (UInt8.ofNat ((bk d h.level h.a)[h.at'.toNat].toNat ^^^ h.mask.toNat)) := by
        unfold flipAt; rw [List.getD_eq_getElem?_getD, hx0]; rfl
      have hxl : (bk d h.level h.a)[h.at'.toNat].toNat ^^^ h.mask.toNat < 256 := Nat.xor_lt_two_pow (n := 8) (UInt8.toNat_lt _) (by omega)
      refine hou.put (n := 1) (x := UInt8.ofNat ((bk d h.level h.a)[h.at'.toNat].toNat ^^^ h.mask.toNat)) ⟨[.int .u8 ((UInt8.ofNat ((bk d h.level h.a)[h.at'.toNat].toNat ^^^ h.mask.toNat)).toNat : Int)], by rw [toNat8 hxl]; rfl, rfl, trivial⟩ rfl (fun _ => rfl) hlt (fun y hy _ => hy.elim) fun H12 ho12 f12 s12 => ?_
      have hdone : doneH c d ss h = putB d h.level h.a ((bk d h.level h.a).set h.at'.toNat (UInt8.ofNat ((bk d h.level h.a)[h.at'.toNat].toNat ^^^ h.mask.toNat))) := by
        unfold doneH; rw [if_neg k5, if_pos k1, hfl]
      have hbl : ∀ y, y + 1 = bu → H7.size ≤ y := fun y hy => (hOF y (.inr (hbu y hy.symm))).1
      refine hK _ _ ⟨⟨O, F, ?_, fun y hy => by have := hOF y hy; omega⟩, h8.up f12 (fun e => by have := hbl _ e; omega), h9.up f12 (fun e => by have := hbl _ e; omega), g.then f12 fun y hy e => by have := hbl _ e; omega, by rw [hm1]; exact decide_eq_true hyes⟩
      rw [hdone]
      exact (hturn H12 _ ho12 f12).dv
    refine ifD_of (fun k2 => ?_) (fun k2 => ?_)
    · -- a swap
      have hm2 : mayH d ss h = hasBk d h.level h.b := by unfold mayH; rw [if_neg k5, if_neg (mOf (.inr (.inl k2))), if_neg k1, if_pos k2]
      refine h8.load rfl ?_
      try simp only [sv_cons, sv_cons1, sc_cons, sc_cons1, asB_bool, ifB_true, ifB_false, un_not, bin_lss, bin_leq, bin_gtr, bin_geq, bin_eql, bin_neq, bin_add, bin_sub, bin_mul, ok_int, ok_bool, ok_slice, ok_str, ok_ptr, ok_map, ok_func, ok_iface, ok_nil, List.all_cons, List.all_nil, Bool.and_true, Bool.true_and, seg, setSeg, List.drop_succ_cons, List.drop_zero, List.take_succ_cons, List.take_zero, List.cons_append, List.nil_append, List.append_nil, List.length_cons, List.length_nil, List.drop_nil, List.size_toArray, Nat.reduceAdd, Nat.reduceLeDiff, Nat.reduceBEq, Nat.zero_add, Nat.le_refl, decide_true, mkV, List.headD_cons, cellsV, w_fldV, w_ext, w_fldP, List.getElem?_toArray, List.getElem?_cons_zero, List.getElem?_cons_succ, beq_self_eq_true, selV]
      refine c_harm_bucket hx.dv hd (fun hb2 H12 g12 => ?_) fun hb2 H12 g12 => bad _ _ _ (h8.g g12) (h9.g g12) (g.trans g12) hr (by rw [hm2]; exact hb2)
      have hx := hx.g g12
      have h8 := h8.g g12
      have h9 := h9.g g12
      have g := g.trans g12
      have hs12 := g12.size
      obtain ⟨⟨u1, hu1, hf1⟩, _, _, hput1⟩ := hx.dv.cell hb
      obtain ⟨⟨u2, hu2, hf2⟩, ⟨pb, hpb⟩, _, _⟩ := hx.dv.cell hb2
      have hnil2 : ∀ (k : Value → Prop), k (cellP vs h.level h.b) → nilV (cellP vs h.level h.b) k := fun k hk => by rw [hpb] at hk ⊢; exact hk
      refine hnil2 _ (hu2.load rfl ?_)
      try simp only [sv_cons, sv_cons1, sc_cons, sc_cons1, asB_bool, ifB_true, ifB_false, un_not, bin_lss, bin_leq, bin_gtr, bin_geq, bin_eql, bin_neq, bin_add, bin_sub, bin_mul, ok_int, ok_bool, ok_slice, ok_str, ok_ptr, ok_map, ok_func, ok_iface, ok_nil, List.all_cons, List.all_nil, Bool.and_true, Bool.true_and, seg, setSeg, List.drop_succ_cons, List.drop_zero, List.take_succ_cons, List.take_zero, List.cons_append, List.nil_append, List.append_nil, List.length_cons, List.length_nil, List.drop_nil, List.size_toArray, Nat.reduceAdd, Nat.reduceLeDiff, Nat.reduceBEq, Nat.zero_add, Nat.le_refl, decide_true, mkV, List.headD_cons, cellsV, w_fldV, w_ext, w_fldP, List.getElem?_toArray, List.getElem?_cons_zero, List.getElem?_cons_succ, beq_self_eq_true, selV]
      refine hnil _ (hu1.load rfl ?_)
      try simp only [sv_cons, sv_cons1, sc_cons, sc_cons1, asB_bool, ifB_true, ifB_false, un_not, bin_lss, bin_leq, bin_gtr, bin_geq, bin_eql, bin_neq, bin_add, bin_sub, bin_mul, ok_int, ok_bool, ok_slice, ok_str, ok_ptr, ok_map, ok_func, ok_iface, ok_nil, List.all_cons, List.all_nil, Bool.and_true, Bool.true_and, seg, setSeg, List.drop_succ_cons, List.drop_zero, List.take_succ_cons, List.take_zero, List.cons_append, List.nil_append, List.append_nil, List.length_cons, List.length_nil, List.drop_nil, List.size_toArray, Nat.reduceAdd, Nat.reduceLeDiff, Nat.reduceBEq, Nat.zero_add, Nat.le_refl, decide_true, mkV, List.headD_cons, cellsV, w_fldV, w_ext, w_fldP, List.getElem?_toArray, List.getElem?_cons_zero, List.getElem?_cons_succ, beq_self_eq_true, selV]
      refine hnil _ (hput1 u2 _ _ hf2 fun H13 hx13 f13 s13 => ?_)
      have hb3 : hasBk (putB d h.level h.a (bk d h.level h.b)) h.level h.b = true := hasBk_put hb2
      obtain ⟨_, _, _, hput3⟩ := hx13.cell hb3
      have hdis := hx.dis
      refine hnil2 _ (hput3 u1 _ _ (hf1.up f13 fun y hy _ => ⟨fun hO => hdis y hO hy, hy⟩) fun H14 hx14 f14 s14 => ?_)
      have hdone : doneH c d ss h = putB (putB d h.level h.a (bk d h.level h.b)) h.level h.b (bk d h.level h.a) := by
        unfold doneH; rw [if_neg k5, if_neg k1, if_pos k2]
      have no : ∀ y, y < H7.size → ¬ O y := fun y hy hO => by have := (hOF y (.inl hO)).1; omega
      refine hK _ _ ⟨⟨O, F, ?_, fun y hy => by have := hOF y hy; omega⟩, (h8.up f13 (no _ (by omega))).up f14 (no _ (by omega)), (h9.up f13 (no _ (by omega))).up f14 (no _ (by omega)), (g.then f13 fun y hy => no y (by omega)).then f14 fun y hy => no y (by omega), by rw [hm2]; exact hb2⟩
      rw [hdone]
      exact hx14.dv
    have hlen1 := hcl.leaves.1
    refine ifD_of (fun k4 => ?_) (fun k4 => ?_)
    · -- a drop
      have hm4 : mayH d ss h = decide (0 < (versL ss h.level h.a).length) := by
        unfold mayH; rw [if_neg k5, if_neg (mOf (.inr (.inr (.inr k4)))), if_neg k1, if_neg k2, if_neg (by omega)]
      have hvl := versL_len (l := ss) (level := h.level) (b := h.a)
      refine hcl.own.len ?_
      try simp only [sv_cons, sv_cons1, sc_cons, sc_cons1, asB_bool, ifB_true, ifB_false, un_not, bin_lss, bin_leq, bin_gtr, bin_geq, bin_eql, bin_neq, bin_add, bin_sub, bin_mul, ok_int, ok_bool, ok_slice, ok_str, ok_ptr, ok_map, ok_func, ok_iface, ok_nil, List.all_cons, List.all_nil, Bool.and_true, Bool.true_and, seg, setSeg, List.drop_succ_cons, List.drop_zero, List.take_succ_cons, List.take_zero, List.cons_append, List.nil_append, List.append_nil, List.length_cons, List.length_nil, List.drop_nil, List.size_toArray, Nat.reduceAdd, Nat.reduceLeDiff, Nat.reduceBEq, Nat.zero_add, Nat.le_refl, decide_true, mkV, List.headD_cons, cellsV, w_fldV, w_ext, w_fldP, List.getElem?_toArray, List.getElem?_cons_zero, List.getElem?_cons_succ, beq_self_eq_true, selV]
      rw [hlen1]
      refine c_harm_need (fun c1 => ?_) fun c1 => bad _ _ _ h8 h9 g hr (by rw [hm4]; exact decide_eq_false (by have := of_decide_eq_false c1; omega))
      have c1 := of_decide_eq_true c1
      refine hcl.own.len ?_
      try simp only [sv_cons, sv_cons1, sc_cons, sc_cons1, asB_bool, ifB_true, ifB_false, un_not, bin_lss, bin_leq, bin_gtr, bin_geq, bin_eql, bin_neq, bin_add, bin_sub, bin_mul, ok_int, ok_bool, ok_slice, ok_str, ok_ptr, ok_map, ok_func, ok_iface, ok_nil, List.all_cons, List.all_nil, Bool.and_true, Bool.true_and, seg, setSeg, List.drop_succ_cons, List.drop_zero, List.take_succ_cons, List.take_zero, List.cons_append, List.nil_append, List.append_nil, List.length_cons, List.length_nil, List.drop_nil, List.size_toArray, Nat.reduceAdd, Nat.reduceLeDiff, Nat.reduceBEq, Nat.zero_add, Nat.le_refl, decide_true, mkV, List.headD_cons, cellsV, w_fldV, w_ext, w_fldP, List.getElem?_toArray, List.getElem?_cons_zero, List.getElem?_cons_succ, beq_self_eq_true, selV]
      rw [hlen1, wrap_i64 (by unfold i64; omega)]
      obtain ⟨⟨u, hu, hul⟩, _⟩ := hx.dv.cell hb
      refine hnil _ (hu.load rfl ?_)
      try simp only [sv_cons, sv_cons1, sc_cons, sc_cons1, asB_bool, ifB_true, ifB_false, un_not, bin_lss, bin_leq, bin_gtr, bin_geq, bin_eql, bin_neq, bin_add, bin_sub, bin_mul, ok_int, ok_bool, ok_slice, ok_str, ok_ptr, ok_map, ok_func, ok_iface, ok_nil, List.all_cons, List.all_nil, Bool.and_true, Bool.true_and, seg, setSeg, List.drop_succ_cons, List.drop_zero, List.take_succ_cons, List.take_zero, List.cons_append, List.nil_append, List.append_nil, List.length_cons, List.length_nil, List.drop_nil, List.size_toArray, Nat.reduceAdd, Nat.reduceLeDiff, Nat.reduceBEq, Nat.zero_add, Nat.le_refl, decide_true, mkV, List.headD_cons, cellsV, w_fldV, w_ext, w_fldP, List.getElem?_toArray, List.getElem?_cons_zero, List.getElem?_cons_succ, beq_self_eq_true, selV]
      have hbkl : (bk d h.level h.a).length ≤ 1000000 := by
        obtain ⟨q1, q2⟩ := hin hb
        exact (hd.2 _ (List.mem_of_getElem? (lvl_get q1))).2 _ (List.mem_of_getElem? (bk_get q2))
      refine hul.1.len ?_
      refine mk_zero (R := rU8) (x := 0) (A := fun _ => False) ⟨rfl, trivial⟩ rfl (by omega) (by omega) (by omega) fun t H12 ht g12 s12 => ?_
      have ht := ht.mono (A' := fun _ => False) fun y hy _ => by simp at hy
      refine bld_one (vrep_V (A := fun _ => False) ht.okcv) rfl (fun _ => rfl) rfl fun t2 H13 ht2 g13 s13 => ?_
      have hol := hcl.own.lt
      rw [show (Value.int .i64 0) = .int .i64 ((0 : Nat) : Int) from rfl]
      refine callP_ofV (c_Insert_by ((hcl.own.g g12).g g13) ht2 (Nat.zero_le _) (by simp) (by omega) (fun y hy _ => by simp at hy) (by simp; omega) fun w H14 b' ho f14 hb' => ?_)
      have ho := ho.mono (A' := fun _ => False) fun y hy _ => by simp at hy
      have no : ∀ y, y < H10.size → y + 1 ≠ bo' := fun y hy => by omega
      have hin0 : insL ws 0 [t] = t :: ws := by simp [insL]
      rw [hin0] at ho
      have hs14 := f14.size
      have hxn := ((hx.g g12).g g13).up f14 fun y hy _ => no y (by have := hOF y hy; omega)
      refine hK4 _ _ ⟨_, w, b', _, List.replicate (bk d h.level h.a).length 0 :: versL ss h.level h.a, fun y => F1 y ∨ y + 1 = H11.size + 1, rfl, ho, All2.consL (hcl.leaves.imp fun u x hu => ?_) ?_, fun y hy => ?_, hxn, ((h8.g g12).g g13).up f14 (no _ (by omega)), ((h9.g g12).g g13).up f14 (no _ (by omega)), ((g.trans g12).trans g13).then f14 fun y hy => no y (by have := g.size; have := hs11; omega), ?_, fun x hx => ?_, by omega⟩
      · exact ((hu.up g12 (F' := F1) fun y hy _ => ⟨trivial, hy⟩).up g13 (F' := F1) fun y hy _ => ⟨trivial, hy⟩).up f14 fun y hy _ => ⟨(hF1 y hy).2.2, .inl hy⟩
      · exact ((Ow.lf ht).up g13 (F' := fun y => y + 1 = H11.size + 1) fun y hy _ => ⟨trivial, hy⟩).up f14 fun y hy _ => ⟨show y + 1 ≠ bo' by have : y + 1 = H11.size + 1 := hy; omega, .inr hy⟩
      · rcases hy with hy | hy
        · have := hF1 y hy
          exact ⟨by omega, by omega, fun hO => by have := hOF y (.inl hO); omega⟩
        · exact ⟨by omega, by omega, fun hO => by have := hOF y (.inl hO); omega⟩
      · rw [hm4]
        have : 0 < (versL ss h.level h.a).length := by omega
        simp only [List.length_cons]
        rw [decide_eq_true (by omega), decide_eq_true (by omega)]
      · unfold doneH
        rw [if_neg k5, if_neg k1, if_neg k2, if_neg (by omega)]
        congr 1
        unfold dropTo
        have e1 : ((((versL ss h.level h.a).length : Nat) : Int) - 1).toNat = (versL ss h.level h.a).length - 1 := by omega
        rw [e1] at hx
        split
        · rename_i hl
          rw [show (versL ss h.level h.a).length - 1 = ((versL ss h.level h.a).length - 2) + 1 by omega, List.getElem?_cons_succ] at hx
          rw [List.getD_eq_getElem?_getD, hx]; rfl
        · rename_i hl
          rw [show (versL ss h.level h.a).length - 1 = 0 by omega] at hx
          simpa using hx
    refine ifD_of (fun k3 => ?_) (fun k3 => ?_)
    · have hm3 : mayH d ss h = decide (0 ≤ h.at' ∧ h.at' < (versL ss h.level h.a).length) := by
        unfold mayH; rw [if_neg k5, if_neg (mOf (.inr (.inr (.inl k3)))), if_neg k1, if_neg k2, if_pos k3]
      refine hK4 _ _ ⟨h.at', vo, bo', ws, _, F1, rfl, hcl.own, hcl.leaves, fun y hy => ?_, hx, h8, h9, g, hm3, fun x hx => ?_, by omega⟩
      · have := hF1 y hy
        exact ⟨by omega, by omega, fun hO => by have := hOF y (.inl hO); omega⟩
      · unfold doneH; rw [if_neg k5, if_neg k1, if_neg k2, if_pos k3, List.getD_eq_getElem?_getD, hx]; rfl
    · exact c_harm_need (fun h => by cases h) fun _ => bad _ _ _ h8 h9 g hr (by
        unfold mayH; rw [if_neg k5, if_pos (by omega)])
  rintro s H' ⟨at', w, b2, ws2, xs2, F2, rfl, hw, hlf, hF2, hx, k8, k9, g', hm, hdone, hsz⟩
  try simp only [sv_cons, sv_cons1, sc_cons, sc_cons1, asB_bool, ifB_true, ifB_false, un_not, bin_lss, bin_leq, bin_gtr, bin_geq, bin_eql, bin_neq, bin_add, bin_sub, bin_mul, ok_int, ok_bool, ok_slice, ok_str, ok_ptr, ok_map, ok_func, ok_iface, ok_nil, List.all_cons, List.all_nil, Bool.and_true, Bool.true_and, seg, setSeg, List.drop_succ_cons, List.drop_zero, List.take_succ_cons, List.take_zero, List.cons_append, List.nil_append, List.append_nil, List.length_cons, List.length_nil, List.drop_nil, List.size_toArray, Nat.reduceAdd, Nat.reduceLeDiff, Nat.reduceBEq, Nat.zero_add, Nat.le_refl, decide_true, mkV, List.headD_cons, cellsV, w_fldV, w_ext, w_fldP, List.getElem?_toArray, List.getElem?_cons_zero, List.getElem?_cons_succ, beq_self_eq_true, selV]
  have hlen2 := hlf.1
  refine join_of (fun s H'' => H'' = H' ∧ (0 ≤ at' ∧ at' < xs2.length)) (fun K hK2 => ?_) ?_
  · refine ifD_of (fun c1 => ?_) (fun c1 => c_harm_need (fun h => by cases h) fun _ => bad _ _ _ k8 k9 g' hr (by rw [hm]; exact decide_eq_false (by omega)))
    refine hw.len ?_
    try simp only [sv_cons, sv_cons1, sc_cons, sc_cons1, asB_bool, ifB_true, ifB_false, un_not, bin_lss, bin_leq, bin_gtr, bin_geq, bin_eql, bin_neq, bin_add, bin_sub, bin_mul, ok_int, ok_bool, ok_slice, ok_str, ok_ptr, ok_map, ok_func, ok_iface, ok_nil, List.all_cons, List.all_nil, Bool.and_true, Bool.true_and, seg, setSeg, List.drop_succ_cons, List.drop_zero, List.take_succ_cons, List.take_zero, List.cons_append, List.nil_append, List.append_nil, List.length_cons, List.length_nil, List.drop_nil, List.size_toArray, Nat.reduceAdd, Nat.reduceLeDiff, Nat.reduceBEq, Nat.zero_add, Nat.le_refl, decide_true, mkV, List.headD_cons, cellsV, w_fldV, w_ext, w_fldP, List.getElem?_toArray, List.getElem?_cons_zero, List.getElem?_cons_succ, beq_self_eq_true, selV]
    exact c_harm_need (fun c2 => hK2 _ _ ⟨rfl, c1, by have := of_decide_eq_true c2; omega⟩) fun c2 => bad _ _ _ k8 k9 g' hr (by rw [hm]; exact decide_eq_false (by have := of_decide_eq_false c2; omega))
  rintro s H'' ⟨rfl, hyes⟩
  have hxlt : at'.toNat < xs2.length := by omega
  have hx2 : xs2[at'.toNat]? = some xs2[at'.toNat] := List.getElem?_eq_getElem hxlt
  obtain ⟨u, hu, hul⟩ := hlf.get hx2
  have hat0 : at' = ((at'.toNat : Nat) : Int) := by omega
  rw [hat0]
  refine (hw.slF (A' := fun _ => True) fun _ _ => trivial).getV hu ?_
  have hxw : DvR H'' O (fun y => F y ∨ F2 y) bo bs v vs d := hx.dv.wider (fun y hy => .inl hy) fun y hO hy => hy.elim (hx.dis y hO) fun h2 => (hF2 y h2).2.2 hO
  obtain ⟨_, _, _, hput2⟩ := hxw.cell hb
  refine hnil _ (hput2 u _ _ (hul.fr fun y hy _ => ⟨.inr hy, rfl⟩) fun H13 hx13 f13 s13 => ?_)
  have no : ∀ y, y < H7.size → ¬ O y := fun y hy hO => by have := (hOF y (.inl hO)).1; omega
  refine hK _ _ ⟨⟨O, (fun y => F y ∨ F2 y), ?_, fun y hy => ?_⟩, k8.up f13 (no _ (by omega)), k9.up f13 (no _ (by omega)), g'.then f13 fun y hy => no y (by omega), by rw [hm]; exact decide_eq_true hyes⟩
  · rw [hdone _ hx2]; exact hx13.dv
  · rcases hy with hy | hy | hy
    · have := hOF y (.inl hy); omega
    · have := hOF y (.inr hy); omega
    · have := hF2 y hy; omega

end Go.Proofs.Ytelfpkegpffajaa
