/- The statement 'DevBack': its function says true. -/
import Derived.Test.YtikebhnnmnlgaaaConLaw12d
set_option linter.unusedVariables false
set_option linter.unusedSimpArgs false
namespace Go.Md

theorem lvlOf_other {d : Dv} {level m b : Int} {x : By} (h : 0 ≤ level) (hm : 0 ≤ m) (hne : m ≠ level) : lvlOf (putB d level b x) m = lvlOf d m := by
  unfold lvlOf putB
  rw [List.getD_eq_getElem?_getD, List.getD_eq_getElem?_getD, List.getElem?_set_ne (by omega)]
theorem lvlOf_put' {d : Dv} {level b : Int} {x : By} (h : 0 ≤ level ∧ level < d.length) : lvlOf (putB d level b x) level = (lvlOf d level).set (b - 1).toNat x := by
  unfold lvlOf putB
  rw [List.getD_eq_getElem?_getD, List.getElem?_set_self (by omega)]; rfl
theorem len_put' {d : Dv} {level b : Int} {x : By} : (putB d level b x).length = d.length := by unfold putB; simp

/-- The same levels' lengths. -/
def Like (d d' : Dv) : Prop := d'.length = d.length ∧ ∀ m : Int, 0 ≤ m → (lvlOf d' m).length = (lvlOf d m).length
theorem Like.rfl' (d : Dv) : Like d d := ⟨rfl, fun _ _ => rfl⟩
theorem Like.trans {a b c : Dv} (h : Like a b) (h' : Like b c) : Like a c := ⟨h'.1.trans h.1, fun m hm => (h'.2 m hm).trans (h.2 m hm)⟩
theorem like_put {d : Dv} {level b : Int} {x : By} (h : 0 ≤ level ∧ level < d.length) : Like d (putB d level b x) := by
  refine ⟨len_put', fun m hm => ?_⟩
  by_cases hne : m = level
  · subst hne; rw [lvlOf_put' h, List.length_set]
  · rw [lvlOf_other h.1 hm hne]
theorem like_levE {d d' : Dv} (h : Like d d') {m : Int} {l : List Int} : levE d' m l = levE d m l := by
  unfold levE
  rw [h.1]
  split
  · rfl
  · have : badAt d' m = badAt d m := by funext b; unfold badAt; rw [h.2 m (by omega)]
    rw [this]

theorem bk_put {d : Dv} {level b m n : Int} {x : By} (h : 0 ≤ level ∧ level < d.length) (hb : 1 ≤ b ∧ b ≤ (lvlOf d level).length) (hm : 0 ≤ m) (hn : 1 ≤ n) :
    bk (putB d level b x) m n = if level = m ∧ b = n then x else bk d m n := by
  unfold bk
  by_cases hl : m = level
  · subst hl
    rw [lvlOf_put' h, List.getD_eq_getElem?_getD, List.getD_eq_getElem?_getD]
    by_cases hbn : b = n
    · subst hbn
      rw [if_pos ⟨rfl, rfl⟩, List.getElem?_set_self (by omega)]; rfl
    · rw [if_neg (by omega), List.getElem?_set_ne (by omega)]
  · rw [lvlOf_other h.1 hm hl, if_neg (by omega)]

theorem may_put {c : Cfg} {d : Dv} {level b : Int} {x : By} (hd : may c d = true) (h : 0 ≤ level ∧ level < d.length) (hx : (x.length : Int) = bkSize d level) : may c (putB d level b x) = true := by
  have hd' := hd
  unfold may at hd ⊢
  simp only [Bool.and_eq_true] at hd ⊢
  refine ⟨hd.1, mayF_iff.2 ⟨by rw [len_put']; exact (mayF_iff.1 hd.2).1, fun i l y hl hy => ?_⟩⟩
  have ok := (mayF_iff.1 hd.2).2
  unfold putB at hy
  rw [List.getElem?_set] at hy
  split at hy
  · rename_i hi
    split at hy
    · cases hy
      have hlv := lvl_get h
      rw [hi] at hlv
      have ok' := ok i l _ hl hlv
      obtain ⟨hp1, hp2, hp3⟩ := may_pos hd' hlv
      unfold levelOk at ok' ⊢
      simp only [Bool.and_eq_true, beq_iff_eq, List.all_eq_true] at ok' ⊢
      rw [List.length_set]
      refine ⟨ok'.1, fun y hy => ?_⟩
      rcases List.mem_or_eq_of_mem_set hy with h1 | rfl
      · exact ok'.2 y h1
      · rw [hx]
        unfold bkSize
        exact ok'.2 _ (List.mem_of_getElem? (bk_get ⟨by omega, by omega⟩))
    · cases hy
  · exact ok i l y hl hy

theorem size_put {c : Cfg} {d : Dv} {level b m : Int} {x : By} (hd : may c d = true) (h : 0 ≤ level ∧ level < d.length) (hb : 1 ≤ b ∧ b ≤ (lvlOf d level).length) (hm : 0 ≤ m) (hx : (x.length : Int) = bkSize d level) : bkSize (putB d level b x) m = bkSize d m := by
  unfold bkSize
  rw [bk_put h hb hm (by omega)]
  split
  · rename_i he; rw [hx, ← he.1]; rfl
  · rfl

/-- A device behind what is written is like it. -/
theorem putAll_fit {c : Cfg} {level : Int} : ∀ {l : List Int} {all : List By} {d : Dv}, may c d = true → (0 ≤ level ∧ level < d.length) → (∀ b ∈ l, 1 ≤ b ∧ b ≤ (lvlOf d level).length) → (∀ x ∈ all, (x.length : Int) = bkSize d level) →
    may c (putAll d level l all) = true ∧ Like d (putAll d level l all) ∧ ∀ m, 0 ≤ m → bkSize (putAll d level l all) m = bkSize d m
  | [], _, d, hd, _, _, _ => ⟨by unfold putAll; exact hd, by unfold putAll; exact Like.rfl' d, fun m _ => by unfold putAll; rfl⟩
  | _ :: _, [], d, hd, _, _, _ => ⟨by unfold putAll; exact hd, by unfold putAll; exact Like.rfl' d, fun m _ => by unfold putAll; rfl⟩
  | b :: l, x :: all, d, hd, h, hb, hx => by
    unfold putAll
    have hb0 := hb b List.mem_cons_self
    have hx0 := hx x List.mem_cons_self
    have lk := like_put (b := b) (x := x) h
    have sz := fun m (hm : 0 ≤ m) => size_put (m := m) hd h hb0 hm hx0
    obtain ⟨i1, i2, i3⟩ := putAll_fit (l := l) (all := all) (may_put (b := b) hd h hx0) (by rw [len_put']; exact h) (fun y hy => by rw [lk.2 level h.1]; exact hb y (List.mem_cons_of_mem _ hy))
      (fun y hy => by rw [sz level h.1]; exact hx y (List.mem_cons_of_mem _ hy))
    exact ⟨i1, lk.trans i2, fun m hm => (i3 m hm).trans (sz m hm)⟩

/-- What may be written. -/
theorem wrE_zero {c : Cfg} {d : Dv} {level : Int} {l : List Int} {all : List By} (h : wrE c d level l all = 0) :
    may c d = true ∧ (0 ≤ level ∧ level < d.length) ∧ (∀ b ∈ l, 1 ≤ b ∧ b ≤ (lvlOf d level).length) ∧ all.length = l.length ∧ ∀ x ∈ all, (x.length : Int) = bkSize d level := by
  unfold wrE at h
  split at h
  · omega
  · rename_i h0
    have h0 : askE c d level l = 0 := by omega
    unfold askE at h0
    split at h0
    · rename_i hm
      obtain ⟨h1, h2⟩ := levE_zero.1 h0
      split at h
      · omega
      · rename_i h3
        have h4 : ¬ all.length ≠ l.length ∧ ¬ all.any (fun b => (b.length : Int) != bkSize d level) = true := by
          constructor
          · intro h; exact h3 (.inl h)
          · intro h; exact h3 (.inr h)
        refine ⟨hm, h1, h2, by omega, fun x hx => ?_⟩
        have := h4.2
        simp only [List.any_eq_true, not_exists, not_and] at this
        have := this x hx
        simpa using this
    · omega
end Go.Md

namespace Go.Proofs.Ytikebhnnmnlgaaa
open Go.Ab Go.Md
set_option maxRecDepth 20000

variable {H : Heap} {Q : Value → Heap → Prop} {A B C : Nat → Prop}

theorem Rw.got {m b1 b2 : Nat} {F : Nat → Prop} {v1 v2 : Value} {ws : List Value} {xs : List By} {sl : List See} (h : Rw m H b1 b2 F v1 ws xs v2 sl) : Sl rBy H (fun _ => True) v1 xs :=
  ((h.o1.slF (A' := fun _ => True) fun _ _ => trivial).join (B := F) (h.lf.imp fun u x hl => hl.1)).mono fun _ _ _ => trivial

theorem one_le {n : Int} (h : IntKind.i64.wrap n = n) : ∀ x ∈ [n], IntKind.i64.wrap x = x := fun x hx => by rw [List.mem_singleton] at hx; rw [hx, h]

theorem c_DevBack {c : Cfg} {a l w : Value} {d : Dv} {level m n : Int} {bs : List Int} {all : List By} (ha : Sl rBys H A a d) (hb : Sl (rI .i64) H B l bs) (hw : Sl rBy H C w all) (hn : IntKind.i64.wrap n = n) (hQ : ∀ H', G H H' → Q (.bool true) H') :
    callV Try.prog (fnV fn_law12_DevBack) [.agg (cCfg c).toArray, .agg #[a], .int .i64 level, l, w, .int .i64 m, .int .i64 n] H Q := by
  apply S_law12_DevBack_of
  unfold S_law12_DevBack
  refine newT_of fun H1 g1 s1 => newT_of fun H2 g2 s2 => c_law12_alive fun H3 g3 => ?_
  have g := (g1.trans g2).trans g3
  refine join_of (fun s H' => G H H' ∧ ∃ b, s = [[.bool b]] ∧ (b = false → Small d ∧ bs.length ≤ 20 ∧ all.length ≤ 20 ∧ ∀ x ∈ all, x.length ≤ 1000)) (fun K hK => ?_) ?_
  · refine c_ref12_Great (ha.g g) fun b H4 hb1 g4 => ?_
    have g := g.trans g4
    cases b with
    | true => exact hK _ _ ⟨g, true, rfl, fun h => by cases h⟩
    | false =>
      refine (hb.g g).len ?_
      try simp only [sv_cons, sv_cons1, sc_cons, sc_cons1, asB_bool, ifB_true, ifB_false, un_not, bin_lss, bin_leq, bin_gtr, bin_geq, bin_eql, bin_neq, bin_add, bin_sub, bin_mul, ok_int, ok_bool, ok_slice, ok_str, ok_ptr, ok_map, ok_func, ok_iface, ok_nil, List.all_cons, List.all_nil, Bool.and_true, Bool.true_and, seg, setSeg, List.drop_succ_cons, List.drop_zero, List.take_succ_cons, List.take_zero, List.cons_append, List.nil_append, List.append_nil, List.length_cons, List.length_nil, List.drop_nil, List.size_toArray, Nat.reduceAdd, Nat.reduceLeDiff, Nat.reduceBEq, Nat.zero_add, Nat.le_refl, decide_true, mkV, List.headD_cons, cellsV, w_fldV, w_ext, w_fldP, List.getElem?_toArray, List.getElem?_cons_zero, List.getElem?_cons_succ, beq_self_eq_true, selV]
      refine ifD_of (fun h1 => hK _ _ ⟨g, true, rfl, fun h => by cases h⟩) (fun h1 => ?_)
      exact c_law12_great (hw.g g) fun b2 hb2 => by
        cases b2 with
        | true => exact hK _ _ ⟨g, true, rfl, fun h => by cases h⟩
        | false => exact hK _ _ ⟨g, _, rfl, fun h => ⟨hb1 rfl, by omega, hb2 rfl⟩⟩
  rintro s H4 ⟨g, b', rfl, hsm⟩
  cases b' with
  | true => exact hQ _ g
  | false =>
    obtain ⟨hs1, hbl, hal, hax⟩ := hsm rfl
    have hm1 := hs1.mid
    have hax' : ∀ x ∈ all, x.length ≤ 1000000 := fun x hx => by have := hax x hx; omega
    refine c_dev_Write (ha.g g) (hb.g g) (hw.g g) hm1 (by omega) (by omega) hax' fun p q O Fp bn H5 hp g5 => ?_
    have hok2 := hp.dv.okcv
    have g := g.trans g5
    try simp only [sv_cons, sv_cons1, sc_cons, sc_cons1, asB_bool, ifB_true, ifB_false, un_not, bin_lss, bin_leq, bin_gtr, bin_geq, bin_eql, bin_neq, bin_add, bin_sub, bin_mul, ok_int, ok_bool, ok_slice, ok_str, ok_ptr, ok_map, ok_func, ok_iface, ok_nil, List.all_cons, List.all_nil, Bool.and_true, Bool.true_and, seg, setSeg, List.drop_succ_cons, List.drop_zero, List.take_succ_cons, List.take_zero, List.cons_append, List.nil_append, List.append_nil, List.length_cons, List.length_nil, List.drop_nil, List.size_toArray, Nat.reduceAdd, Nat.reduceLeDiff, Nat.reduceBEq, Nat.zero_add, Nat.le_refl, decide_true, mkV, List.headD_cons, cellsV, w_fldV, w_ext, w_fldP, List.getElem?_toArray, List.getElem?_cons_zero, List.getElem?_cons_succ, beq_self_eq_true, selV, hok2]
    refine newT_of fun H6 g6 s6 => ?_
    have g := g.trans g6
    have hdv := (hp.dv.sl (A := fun _ => True) fun _ _ => trivial).g g6
    have hss := (hp.ss.sl (A' := fun _ => True) (fun _ _ _ => trivial) fun _ _ => trivial).g g6
    clear hp
    by_cases he : wrE c d level bs all = 0
    · rw [if_pos he] at hdv hss
      rw [he]
      try simp only [sv_cons, sv_cons1, sc_cons, sc_cons1, asB_bool, ifB_true, ifB_false, un_not, bin_lss, bin_leq, bin_gtr, bin_geq, bin_eql, bin_neq, bin_add, bin_sub, bin_mul, ok_int, ok_bool, ok_slice, ok_str, ok_ptr, ok_map, ok_func, ok_iface, ok_nil, List.all_cons, List.all_nil, Bool.and_true, Bool.true_and, seg, setSeg, List.drop_succ_cons, List.drop_zero, List.take_succ_cons, List.take_zero, List.cons_append, List.nil_append, List.append_nil, List.length_cons, List.length_nil, List.drop_nil, List.size_toArray, Nat.reduceAdd, Nat.reduceLeDiff, Nat.reduceBEq, Nat.zero_add, Nat.le_refl, decide_true, mkV, List.headD_cons, cellsV, w_fldV, w_ext, w_fldP, List.getElem?_toArray, List.getElem?_cons_zero, List.getElem?_cons_succ, beq_self_eq_true, selV]
      obtain ⟨w1, w2, w3, w4, w5⟩ := wrE_zero he
      obtain ⟨f1, f2, f3⟩ := putAll_fit w1 w2 w3 w5
      have hmd : Mid (putAll d level bs all) := mid_putAll hm1 hax'
      refine bld_I (q := .i64) [n] (one_le hn) rfl fun u7 H7 hu7 g7 _ => ?_
      refine c_dev_Read (hdv.g g7) (hu7.slF (A' := fun _ => True) fun _ _ => trivial) hmd (by simp) fun got m1 b1 b2 F1 ws1 H8 hr1 g8 => ?_
      try simp only [sv_cons, sv_cons1, sc_cons, sc_cons1, asB_bool, ifB_true, ifB_false, un_not, bin_lss, bin_leq, bin_gtr, bin_geq, bin_eql, bin_neq, bin_add, bin_sub, bin_mul, ok_int, ok_bool, ok_slice, ok_str, ok_ptr, ok_map, ok_func, ok_iface, ok_nil, List.all_cons, List.all_nil, Bool.and_true, Bool.true_and, seg, setSeg, List.drop_succ_cons, List.drop_zero, List.take_succ_cons, List.take_zero, List.cons_append, List.nil_append, List.append_nil, List.length_cons, List.length_nil, List.drop_nil, List.size_toArray, Nat.reduceAdd, Nat.reduceLeDiff, Nat.reduceBEq, Nat.zero_add, Nat.le_refl, decide_true, mkV, List.headD_cons, cellsV, w_fldV, w_ext, w_fldP, List.getElem?_toArray, List.getElem?_cons_zero, List.getElem?_cons_succ, beq_self_eq_true, selV]
      have g68 := g7.trans g8
      refine bld_I (q := .i64) [n] (one_le hn) rfl fun u9 H9 hu9 g9 _ => ?_
      refine c_dev_Read (ha.g ((g.trans g68).trans g9)) (hu9.slF (A' := fun _ => True) fun _ _ => trivial) hm1 (by simp) fun was m2 b3 b4 F2 ws2 H10 hr2 g10 => ?_
      try simp only [sv_cons, sv_cons1, sc_cons, sc_cons1, asB_bool, ifB_true, ifB_false, un_not, bin_lss, bin_leq, bin_gtr, bin_geq, bin_eql, bin_neq, bin_add, bin_sub, bin_mul, ok_int, ok_bool, ok_slice, ok_str, ok_ptr, ok_map, ok_func, ok_iface, ok_nil, List.all_cons, List.all_nil, Bool.and_true, Bool.true_and, seg, setSeg, List.drop_succ_cons, List.drop_zero, List.take_succ_cons, List.take_zero, List.cons_append, List.nil_append, List.append_nil, List.length_cons, List.length_nil, List.drop_nil, List.size_toArray, Nat.reduceAdd, Nat.reduceLeDiff, Nat.reduceBEq, Nat.zero_add, Nat.le_refl, decide_true, mkV, List.headD_cons, cellsV, w_fldV, w_ext, w_fldP, List.getElem?_toArray, List.getElem?_cons_zero, List.getElem?_cons_succ, beq_self_eq_true, selV]
      have hgot := (Rw.got hr1).g (g9.trans g10)
      have hwas := Rw.got hr2
      have g610 := g68.trans (g9.trans g10)
      clear hr1 hr2
      have hask : askE c (putAll d level bs all) m [n] = askE c d m [n] := by
        unfold askE; rw [f1, w1, like_levE f2]
      rw [hask] at hgot
      rw [hask]
      refine join_of (fun s H' => G H10 H' ∧ s = [[.bool false]]) (fun K hK => ?_) ?_
      · rw [show decide (askE c d m [n] ≠ askE c d m [n]) = false from decide_eq_false (fun h => h rfl)]
        try simp only [sv_cons, sv_cons1, sc_cons, sc_cons1, asB_bool, ifB_true, ifB_false, un_not, bin_lss, bin_leq, bin_gtr, bin_geq, bin_eql, bin_neq, bin_add, bin_sub, bin_mul, ok_int, ok_bool, ok_slice, ok_str, ok_ptr, ok_map, ok_func, ok_iface, ok_nil, List.all_cons, List.all_nil, Bool.and_true, Bool.true_and, seg, setSeg, List.drop_succ_cons, List.drop_zero, List.take_succ_cons, List.take_zero, List.cons_append, List.nil_append, List.append_nil, List.length_cons, List.length_nil, List.drop_nil, List.size_toArray, Nat.reduceAdd, Nat.reduceLeDiff, Nat.reduceBEq, Nat.zero_add, Nat.le_refl, decide_true, mkV, List.headD_cons, cellsV, w_fldV, w_ext, w_fldP, List.getElem?_toArray, List.getElem?_cons_zero, List.getElem?_cons_succ, beq_self_eq_true, selV]
        refine c_dev_Check (hdv.g g610) hmd fun H11 g11 => ?_
        rw [f1]
        try simp only [sv_cons, sv_cons1, sc_cons, sc_cons1, asB_bool, ifB_true, ifB_false, un_not, bin_lss, bin_leq, bin_gtr, bin_geq, bin_eql, bin_neq, bin_add, bin_sub, bin_mul, ok_int, ok_bool, ok_slice, ok_str, ok_ptr, ok_map, ok_func, ok_iface, ok_nil, List.all_cons, List.all_nil, Bool.and_true, Bool.true_and, seg, setSeg, List.drop_succ_cons, List.drop_zero, List.take_succ_cons, List.take_zero, List.cons_append, List.nil_append, List.append_nil, List.length_cons, List.length_nil, List.drop_nil, List.size_toArray, Nat.reduceAdd, Nat.reduceLeDiff, Nat.reduceBEq, Nat.zero_add, Nat.le_refl, decide_true, mkV, List.headD_cons, cellsV, w_fldV, w_ext, w_fldP, List.getElem?_toArray, List.getElem?_cons_zero, List.getElem?_cons_succ, beq_self_eq_true, selV]
        refine hss.len (hb.len ?_)
        rw [seesW_len w4.symm]
        try simp only [sv_cons, sv_cons1, sc_cons, sc_cons1, asB_bool, ifB_true, ifB_false, un_not, bin_lss, bin_leq, bin_gtr, bin_geq, bin_eql, bin_neq, bin_add, bin_sub, bin_mul, ok_int, ok_bool, ok_slice, ok_str, ok_ptr, ok_map, ok_func, ok_iface, ok_nil, List.all_cons, List.all_nil, Bool.and_true, Bool.true_and, seg, setSeg, List.drop_succ_cons, List.drop_zero, List.take_succ_cons, List.take_zero, List.cons_append, List.nil_append, List.append_nil, List.length_cons, List.length_nil, List.drop_nil, List.size_toArray, Nat.reduceAdd, Nat.reduceLeDiff, Nat.reduceBEq, Nat.zero_add, Nat.le_refl, decide_true, mkV, List.headD_cons, cellsV, w_fldV, w_ext, w_fldP, List.getElem?_toArray, List.getElem?_cons_zero, List.getElem?_cons_succ, beq_self_eq_true, selV]
        exact hK _ _ ⟨g11, by simp⟩
      rintro s H11 ⟨g11, rfl⟩
      try simp only [sv_cons, sv_cons1, sc_cons, sc_cons1, asB_bool, ifB_true, ifB_false, un_not, bin_lss, bin_leq, bin_gtr, bin_geq, bin_eql, bin_neq, bin_add, bin_sub, bin_mul, ok_int, ok_bool, ok_slice, ok_str, ok_ptr, ok_map, ok_func, ok_iface, ok_nil, List.all_cons, List.all_nil, Bool.and_true, Bool.true_and, seg, setSeg, List.drop_succ_cons, List.drop_zero, List.take_succ_cons, List.take_zero, List.cons_append, List.nil_append, List.append_nil, List.length_cons, List.length_nil, List.drop_nil, List.size_toArray, Nat.reduceAdd, Nat.reduceLeDiff, Nat.reduceBEq, Nat.zero_add, Nat.le_refl, decide_true, mkV, List.headD_cons, cellsV, w_fldV, w_ext, w_fldP, List.getElem?_toArray, List.getElem?_cons_zero, List.getElem?_cons_succ, beq_self_eq_true, selV]
      have gb := (g.trans g610).trans g11
      refine loop_up bs.length (fun i s H' => G H11 H' ∧ ∃ v, Sl rBy H' (fun _ => True) v (if askE c d m [n] = 0 then [bk (putAll d level (bs.take i) (all.take i)) m n] else []) ∧ s = [[v], [.int .i64 (i : Int)]])
        ⟨G.fr (Fr.refl _ _), was, by simpa [putAll] using hwas.g g11, rfl⟩ ?_
      rintro i s H12 K hi ⟨g12, v, hv, rfl⟩ hK
      refine hb.len ?_
      try simp only [sv_cons, sv_cons1, sc_cons, sc_cons1, asB_bool, ifB_true, ifB_false, un_not, bin_lss, bin_leq, bin_gtr, bin_geq, bin_eql, bin_neq, bin_add, bin_sub, bin_mul, ok_int, ok_bool, ok_slice, ok_str, ok_ptr, ok_map, ok_func, ok_iface, ok_nil, List.all_cons, List.all_nil, Bool.and_true, Bool.true_and, seg, setSeg, List.drop_succ_cons, List.drop_zero, List.take_succ_cons, List.take_zero, List.cons_append, List.nil_append, List.append_nil, List.length_cons, List.length_nil, List.drop_nil, List.size_toArray, Nat.reduceAdd, Nat.reduceLeDiff, Nat.reduceBEq, Nat.zero_add, Nat.le_refl, decide_true, mkV, List.headD_cons, cellsV, w_fldV, w_ext, w_fldP, List.getElem?_toArray, List.getElem?_cons_zero, List.getElem?_cons_succ, beq_self_eq_true, selV]
      refine ifD_of (fun c1 => ?_) (fun c1 => ?_)
      · have hlt : i < bs.length := by omega
        have hlt2 : i < all.length := by omega
        have hbi := w3 _ (List.getElem_mem hlt)
        have e1 : bs.take (i + 1) = bs.take i ++ [bs[i]] := List.take_succ_eq_append_getElem hlt
        have e2 : all.take (i + 1) = all.take i ++ [all[i]] := List.take_succ_eq_append_getElem hlt2
        have hsn : putAll d level (bs.take (i + 1)) (all.take (i + 1)) = putB (putAll d level (bs.take i) (all.take i)) level bs[i] all[i] := by
          rw [e1, e2]; exact putAll_snoc (by simp; omega)
        obtain ⟨k1, k2, k3⟩ := putAll_fit (l := bs.take i) (all := all.take i) w1 w2 (fun y hy => w3 y (List.mem_of_mem_take hy)) (fun y hy => w5 y (List.mem_of_mem_take hy))
        have hbk : askE c d m [n] = 0 → bk (putAll d level (bs.take (i + 1)) (all.take (i + 1))) m n = if level = m ∧ bs[i] = n then all[i] else bk (putAll d level (bs.take i) (all.take i)) m n := fun h0 => by
          unfold askE at h0
          rw [if_pos w1] at h0
          obtain ⟨h1, h2⟩ := levE_zero.1 h0
          rw [hsn]
          exact bk_put (by rw [k2.1]; exact w2) (by rw [k2.2 level w2.1]; exact hbi) h1.1 (h2 n List.mem_cons_self).1
        have gbi := gb.trans g12
        refine join_of (fun s H' => H' = H12 ∧ s = [[.bool (decide (level = m ∧ bs[i] = n))]]) (fun K' hK' => ?_) ?_
        · try simp only [sv_cons, sv_cons1, sc_cons, sc_cons1, asB_bool, ifB_true, ifB_false, un_not, bin_lss, bin_leq, bin_gtr, bin_geq, bin_eql, bin_neq, bin_add, bin_sub, bin_mul, ok_int, ok_bool, ok_slice, ok_str, ok_ptr, ok_map, ok_func, ok_iface, ok_nil, List.all_cons, List.all_nil, Bool.and_true, Bool.true_and, seg, setSeg, List.drop_succ_cons, List.drop_zero, List.take_succ_cons, List.take_zero, List.cons_append, List.nil_append, List.append_nil, List.length_cons, List.length_nil, List.drop_nil, List.size_toArray, Nat.reduceAdd, Nat.reduceLeDiff, Nat.reduceBEq, Nat.zero_add, Nat.le_refl, decide_true, mkV, List.headD_cons, cellsV, w_fldV, w_ext, w_fldP, List.getElem?_toArray, List.getElem?_cons_zero, List.getElem?_cons_succ, beq_self_eq_true, selV]
          refine ifD_of (fun c2 => ?_) (fun c2 => hK' _ _ ⟨rfl, jb_f (by omega)⟩)
          refine (hb.g gbi).getI (List.getElem?_eq_getElem hlt) fun _ => ?_
          try simp only [sv_cons, sv_cons1, sc_cons, sc_cons1, asB_bool, ifB_true, ifB_false, un_not, bin_lss, bin_leq, bin_gtr, bin_geq, bin_eql, bin_neq, bin_add, bin_sub, bin_mul, ok_int, ok_bool, ok_slice, ok_str, ok_ptr, ok_map, ok_func, ok_iface, ok_nil, List.all_cons, List.all_nil, Bool.and_true, Bool.true_and, seg, setSeg, List.drop_succ_cons, List.drop_zero, List.take_succ_cons, List.take_zero, List.cons_append, List.nil_append, List.append_nil, List.length_cons, List.length_nil, List.drop_nil, List.size_toArray, Nat.reduceAdd, Nat.reduceLeDiff, Nat.reduceBEq, Nat.zero_add, Nat.le_refl, decide_true, mkV, List.headD_cons, cellsV, w_fldV, w_ext, w_fldP, List.getElem?_toArray, List.getElem?_cons_zero, List.getElem?_cons_succ, beq_self_eq_true, selV]
          exact hK' _ _ ⟨rfl, jb_d (by omega)⟩
        rintro s H13 ⟨rfl, rfl⟩
        try simp only [sv_cons, sv_cons1, sc_cons, sc_cons1, asB_bool, ifB_true, ifB_false, un_not, bin_lss, bin_leq, bin_gtr, bin_geq, bin_eql, bin_neq, bin_add, bin_sub, bin_mul, ok_int, ok_bool, ok_slice, ok_str, ok_ptr, ok_map, ok_func, ok_iface, ok_nil, List.all_cons, List.all_nil, Bool.and_true, Bool.true_and, seg, setSeg, List.drop_succ_cons, List.drop_zero, List.take_succ_cons, List.take_zero, List.cons_append, List.nil_append, List.append_nil, List.length_cons, List.length_nil, List.drop_nil, List.size_toArray, Nat.reduceAdd, Nat.reduceLeDiff, Nat.reduceBEq, Nat.zero_add, Nat.le_refl, decide_true, mkV, List.headD_cons, cellsV, w_fldV, w_ext, w_fldP, List.getElem?_toArray, List.getElem?_cons_zero, List.getElem?_cons_succ, beq_self_eq_true, selV]
        refine join_of (fun s H' => G H13 H' ∧ ∃ v, Sl rBy H' (fun _ => True) v (if askE c d m [n] = 0 then [bk (putAll d level (bs.take (i + 1)) (all.take (i + 1))) m n] else []) ∧ s = [[v]]) (fun K' hK' => ?_) ?_
        · refine ifD_of (fun c2 => ?_) (fun c2 => hK' _ _ ⟨G.fr (Fr.refl _ _), v, ?_, rfl⟩)
          · refine (hw.g gbi).getS (List.getElem?_eq_getElem hlt2) fun u hu => ?_
            refine bld_all (R := rBy) (.cons (vrep_S hu) .nil) rfl (fun _ => rfl) rfl fun u' H14 hu' g14 _ => hK' _ _ ⟨g14, u', ?_, rfl⟩
            have h0 : askE c d m [n] = 0 := by
              unfold askE
              rw [if_pos w1]
              refine levE_zero.2 ⟨by rw [← c2.1]; exact w2, fun b hb => ?_⟩
              rw [List.mem_singleton] at hb
              rw [hb, ← c2.1, ← c2.2]; exact hbi
            rw [if_pos h0, hbk h0, if_pos c2]
            exact hu'.sl (fun _ _ _ => trivial) fun _ _ => trivial
          · by_cases h0 : askE c d m [n] = 0
            · rw [if_pos h0, hbk h0, if_neg c2]
              rw [if_pos h0] at hv; exact hv
            · rw [if_neg h0]; rw [if_neg h0] at hv; exact hv
        rintro s H14 ⟨g14, v', hv', rfl⟩
        try simp only [sv_cons, sv_cons1, sc_cons, sc_cons1, asB_bool, ifB_true, ifB_false, un_not, bin_lss, bin_leq, bin_gtr, bin_geq, bin_eql, bin_neq, bin_add, bin_sub, bin_mul, ok_int, ok_bool, ok_slice, ok_str, ok_ptr, ok_map, ok_func, ok_iface, ok_nil, List.all_cons, List.all_nil, Bool.and_true, Bool.true_and, seg, setSeg, List.drop_succ_cons, List.drop_zero, List.take_succ_cons, List.take_zero, List.cons_append, List.nil_append, List.append_nil, List.length_cons, List.length_nil, List.drop_nil, List.size_toArray, Nat.reduceAdd, Nat.reduceLeDiff, Nat.reduceBEq, Nat.zero_add, Nat.le_refl, decide_true, mkV, List.headD_cons, cellsV, w_fldV, w_ext, w_fldP, List.getElem?_toArray, List.getElem?_cons_zero, List.getElem?_cons_succ, beq_self_eq_true, selV]
        rw [wrap_i64 (by unfold i64; omega)]
        exact hK _ _ hlt ⟨g12.trans g14, v', hv', by simp⟩
      · have : i = bs.length := by omega
        subst this
        rw [List.take_of_length_le (Nat.le_refl _), List.take_of_length_le (by omega)] at hv
        refine join_of (fun s H' => G H12 H' ∧ s = [[.bool true]]) (fun K' hK' => ?_) ?_
        · refine c_ref01_SameAll (hgot.g (g11.trans g12)) hv (by split <;> simp) ?_
          have : (if askE c d m [n] = 0 then List.map (bk (putAll d level bs all) m) [n] else []) = if askE c d m [n] = 0 then [bk (putAll d level bs all) m n] else [] := rfl
          rw [this, decide_eq_true rfl]
          exact hK' _ _ ⟨G.fr (Fr.refl _ _), rfl⟩
        rintro s H13 ⟨g13, rfl⟩
        exact hQ _ ((gb.trans g12).trans g13)
    · rw [if_neg he] at hdv hss
      try simp only [sv_cons, sv_cons1, sc_cons, sc_cons1, asB_bool, ifB_true, ifB_false, un_not, bin_lss, bin_leq, bin_gtr, bin_geq, bin_eql, bin_neq, bin_add, bin_sub, bin_mul, ok_int, ok_bool, ok_slice, ok_str, ok_ptr, ok_map, ok_func, ok_iface, ok_nil, List.all_cons, List.all_nil, Bool.and_true, Bool.true_and, seg, setSeg, List.drop_succ_cons, List.drop_zero, List.take_succ_cons, List.take_zero, List.cons_append, List.nil_append, List.append_nil, List.length_cons, List.length_nil, List.drop_nil, List.size_toArray, Nat.reduceAdd, Nat.reduceLeDiff, Nat.reduceBEq, Nat.zero_add, Nat.le_refl, decide_true, mkV, List.headD_cons, cellsV, w_fldV, w_ext, w_fldP, List.getElem?_toArray, List.getElem?_cons_zero, List.getElem?_cons_succ, beq_self_eq_true, selV]
      rw [show decide (wrE c d level bs all ≠ 0) = true from decide_eq_true he]
      try simp only [sv_cons, sv_cons1, sc_cons, sc_cons1, asB_bool, ifB_true, ifB_false, un_not, bin_lss, bin_leq, bin_gtr, bin_geq, bin_eql, bin_neq, bin_add, bin_sub, bin_mul, ok_int, ok_bool, ok_slice, ok_str, ok_ptr, ok_map, ok_func, ok_iface, ok_nil, List.all_cons, List.all_nil, Bool.and_true, Bool.true_and, seg, setSeg, List.drop_succ_cons, List.drop_zero, List.take_succ_cons, List.take_zero, List.cons_append, List.nil_append, List.append_nil, List.length_cons, List.length_nil, List.drop_nil, List.size_toArray, Nat.reduceAdd, Nat.reduceLeDiff, Nat.reduceBEq, Nat.zero_add, Nat.le_refl, decide_true, mkV, List.headD_cons, cellsV, w_fldV, w_ext, w_fldP, List.getElem?_toArray, List.getElem?_cons_zero, List.getElem?_cons_succ, beq_self_eq_true, selV]
      refine join_of (fun s H' => H' = H6 ∧ s = [[.bool true]]) (fun K hK => ?_) ?_
      · refine hdv.len (w_eqI rfl ?_)
        refine hss.len (w_eqI rfl (hK _ _ ⟨rfl, rfl⟩))
      rintro s H7 ⟨rfl, rfl⟩
      exact hQ _ g

end Go.Proofs.Ytikebhnnmnlgaaa
