/- The statement 'DevSeen': its function says true. -/
import Derived.Test.YtikebhnnmnlgaaaConLaw12e
set_option linter.unusedVariables false
set_option linter.unusedSimpArgs false
namespace Go.Md

theorem behind_R {d : Dv} {level : Int} {l : List Int} (d0 : Dv) : behind d (seesR d0 level l) = d := by
  unfold seesR behind
  induction l with
  | nil => rfl
  | cons b l ih => simp only [List.map_cons, List.foldl_cons]; exact ih
theorem behind_W {level : Int} : ∀ {l : List Int} {all : List By} {d : Dv}, behind d (seesW level l all) = putAll d level l all
  | [], [], d => rfl
  | [], _ :: _, d => rfl
  | _ :: _, [], d => rfl
  | b :: l, x :: all, d => by
    show behind (putB d level b x) (seesW level l all) = putAll (putB d level b x) level l all
    exact behind_W
theorem behind_RW {d : Dv} {level : Int} {l : List Int} {all : List By} : behind d (seesR d level l ++ seesW level l all) = putAll d level l all := by
  unfold behind
  rw [List.foldl_append]
  show behind (behind d (seesR d level l)) (seesW level l all) = _
  rw [behind_R, behind_W]

theorem seesW_mem {level : Int} {s : See} : ∀ {l : List Int} {all : List By}, s ∈ seesW level l all → s.kind = 2 ∧ s.level = level ∧ s.bucket ∈ l ∧ s.bytes ∈ all
  | [], _, h => by unfold seesW at h; cases h
  | _ :: _, [], h => by unfold seesW at h; cases h
  | b :: l, x :: all, h => by
    unfold seesW at h
    rcases List.mem_cons.1 h with rfl | h
    · exact ⟨rfl, rfl, List.mem_cons_self, List.mem_cons_self⟩
    · obtain ⟨h1, h2, h3, h4⟩ := seesW_mem h
      exact ⟨h1, h2, List.mem_cons_of_mem _ h3, List.mem_cons_of_mem _ h4⟩

theorem seesW_get {level : Int} : ∀ {l : List Int} {all : List By} {i : Nat} {b : Int} {x : By}, l[i]? = some b → all[i]? = some x → (seesW level l all)[i]? = some ⟨2, level, b, x⟩
  | [], _, i, b, x, h, _ => by simp at h
  | _ :: _, [], i, b, x, _, h => by simp at h
  | b :: l, x :: all, 0, b', x', h, h' => by
    simp only [List.getElem?_cons_zero, Option.some.injEq] at h h'
    subst h; subst h'; rfl
  | b :: l, x :: all, i + 1, b', x', h, h' => by
    unfold seesW
    simp only [List.getElem?_cons_succ] at h h' ⊢
    exact seesW_get h h'

theorem bk_len {c : Cfg} {d : Dv} {level b : Int} (hd : may c d = true) (h : 0 ≤ level ∧ level < d.length) (hb : 1 ≤ b ∧ b ≤ (lvlOf d level).length) : ((bk d level b).length : Int) = bkSize d level := by
  obtain ⟨l, _, _, _, h4⟩ := may_level hd (lvl_get h)
  unfold bkSize
  rw [h4 _ (List.mem_of_getElem? (bk_get hb)), h4 _ (List.mem_of_getElem? (bk_get ⟨by omega, by omega⟩))]

theorem repE_RW {c : Cfg} {d : Dv} {level : Int} {l : List Int} {all : List By} (hd : may c d = true) (h : 0 ≤ level ∧ level < d.length) (hb : ∀ b ∈ l, 1 ≤ b ∧ b ≤ (lvlOf d level).length) (hx : ∀ x ∈ all, (x.length : Int) = bkSize d level) :
    repE c d (seesR d level l ++ seesW level l all) = 0 := by
  unfold repE
  rw [if_pos hd, if_pos]
  rw [List.all_eq_true]
  intro s hs
  have one : ∀ b ∈ l, levE d level [b] = 0 := fun b hbl => levE_zero.2 ⟨h, fun y hy => by rw [List.mem_singleton] at hy; rw [hy]; exact hb b hbl⟩
  rcases List.mem_append.1 hs with hs | hs
  · unfold seesR at hs
    obtain ⟨b, hbl, rfl⟩ := List.mem_map.1 hs
    unfold seeOk
    simp only [one b hbl, bk_len hd h (hb b hbl)]
    simp
  · obtain ⟨h1, h2, h3, h4⟩ := seesW_mem hs
    unfold seeOk
    rw [h1, h2, one _ h3, hx _ h4]
    simp
end Go.Md

namespace Go.Proofs.Ytikebhnnmnlgaaa
open Go.Ab Go.Md
set_option maxRecDepth 20000

variable {H : Heap} {Q : Value → Heap → Prop} {A B C : Nat → Prop}

theorem w_neI {q : IntKind} {a b : Int} {k : Value → Prop} (h : a = b) (hk : k (.bool false)) : binV (.int q) .neq (.int q a) (.int q b) k := by
  subst h
  rw [bin_neq, decide_eq_false (fun h => h rfl)]; exact hk

theorem w_not {b : Bool} {k : Value → Prop} (hk : k (.bool !b)) : unV .not (.bool b) k := by rw [un_not]; exact hk

structure Al3 (H0 : Heap) (u : Value) (xs : List See) (H : Heap) : Prop where
  g : G H0 H
  ow : ∃ b, Ow rSee H b (fun y => y < H0.size) u xs ∧ H0.size < b

theorem Al3.nil {H0 : Heap} {e : Nat} {z : List Value} (g : G H0 H) (hk : ∀ u H', Al3 H0 u [] H' → Q u H') : bldS e 4 true z 0 [] H Q :=
  bld_nil rSee fun u H' h g' _ => hk u H' ⟨g.trans g', _, h.mono (fun y h _ => h.elim), by have := g.size; omega⟩
theorem Al3.new {H0 : Heap} {u : Value} {xs : List See} {k : Heap → Prop} (h : Al3 H0 u xs H) (hk : ∀ H', Al3 H0 u xs H' → k H') : newT H k :=
  newT_of fun H' g _ => hk H' ⟨h.g.trans g, h.ow.elim fun b hb => ⟨b, hb.1.g g, hb.2⟩⟩
theorem Al3.app {H0 : Heap} {u t : Value} {xs ys : List See} {e bytes : Nat} {z : List Value} (h : Al3 H0 u xs H) (ht : Sl rSee H0 (fun y => y < H0.size) t ys) (hz : z.length = 4)
    (hbig : (xs.length + ys.length) * bytes ≤ 140737488355328) (hbig2 : xs.length + ys.length ≤ 9223372036854775807) (hk : ∀ u H', Al3 H0 u (xs ++ ys) H' → Q u H') : appS e 4 bytes z u t H Q := by
  obtain ⟨g, b, ho, hb⟩ := h
  refine ho.app (ht.g g).src rfl (by omega) hz (fun y hy _ => by have : y < H0.size := hy.elim id id; omega) hbig hbig2 fun v H' b' ho' f hb' _ => hk v H' ⟨?_, b', ho'.mono fun y hy _ => hy.1.elim id id, ?_⟩
  · exact Fr.trans (C := fun _ => True) g f fun y hy _ => ⟨trivial, by omega⟩
  · have := g.size; omega

theorem c_DevSeen {c : Cfg} {a l w : Value} {d : Dv} {level : Int} {bs : List Int} {all : List By} (ha : Sl rBys H A a d) (hb : Sl (rI .i64) H B l bs) (hw : Sl rBy H C w all) (hQ : ∀ H', G H H' → Q (.bool true) H') :
    callV Try.prog (fnV fn_law12_DevSeen) [.agg (cCfg c).toArray, .agg #[a], .int .i64 level, l, w] H Q := by
  apply S_law12_DevSeen_of
  unfold S_law12_DevSeen
  refine newT_of fun H1 g1 s1 => newT_of fun H2 g2 s2 => c_law12_alive fun H3 g3 => ?_
  have g := (g1.trans g2).trans g3
  refine join_of (fun s H' => G H H' ∧ ∃ b, s = [[.bool b]] ∧ (b = false → Small d ∧ bs.length ≤ 20 ∧ all.length ≤ 20 ∧ ∀ x ∈ all, x.length ≤ 1000)) (fun K hK => ?_) ?_
  · refine c_ref12_Great (ha.g g) fun b H4 hb1 g4 => ?_
    have g := g.trans g4
    cases b with
    | true => exact hK _ _ ⟨g, true, rfl, fun h => by cases h⟩
    | false =>
      refine (hb.g g).len ?_
      try simp only [sv_cons, sv_cons1, sc_cons, sc_cons1, asB_bool, ifB_true, ifB_false, un_not, bin_lss, bin_leq, bin_gtr, bin_geq, bin_eql, bin_neq, bin_add, bin_sub, bin_mul, ok_int, ok_bool, ok_slice, ok_str, ok_ptr, ok_map, ok_func, ok_iface, ok_nil, List.all_cons, List.all_nil, Bool.and_true, Bool.true_and, seg, setSeg, List.drop_succ_cons, List.drop_zero, List.take_succ_cons, List.take_zero, List.cons_append, List.nil_append, List.append_nil, List.length_cons, List.length_nil, List.drop_nil, List.size_toArray, Nat.reduceAdd, Nat.reduceLeDiff, Nat.reduceBEq, Nat.zero_add, Nat.le_refl, decide_true, mkV, List.headD_cons, cellsV, w_fldV, w_ext, w_fldP, List.getElem?_toArray, List.getElem?_cons_zero, List.getElem?_cons_succ, beq_self_eq_true, selV]
      refine ifD_of (fun h1 => hK _ _ ⟨g, true, rfl, fun h => by cases h⟩) (fun h1 => ?_)
      exact c_law12_great (hw.g g) fun b2 hb2 => by
        cases b2 with
        | true => exact hK _ _ ⟨g, true, rfl, fun h => by cases h⟩
        | false => exact hK _ _ ⟨g, _, rfl, fun h => ⟨hb1 rfl, by omega, hb2 rfl⟩⟩
  rintro s H4 ⟨g, b', rfl, hsm⟩
  cases b' with
  | true => exact hQ _ g
  | false =>
    obtain ⟨hs1, hbl, hal, hax⟩ := hsm rfl
    have hm1 := hs1.mid
    have hax' : ∀ x ∈ all, x.length ≤ 1000000 := fun x hx => by have := hax x hx; omega
    refine c_dev_Write (ha.g g) (hb.g g) (hw.g g) hm1 (by omega) (by omega) hax' fun p q O Fp bn H5 hp g5 => ?_
    have hok2 := hp.dv.okcv
    have g := g.trans g5
    try simp only [sv_cons, sv_cons1, sc_cons, sc_cons1, asB_bool, ifB_true, ifB_false, un_not, bin_lss, bin_leq, bin_gtr, bin_geq, bin_eql, bin_neq, bin_add, bin_sub, bin_mul, ok_int, ok_bool, ok_slice, ok_str, ok_ptr, ok_map, ok_func, ok_iface, ok_nil, List.all_cons, List.all_nil, Bool.and_true, Bool.true_and, seg, setSeg, List.drop_succ_cons, List.drop_zero, List.take_succ_cons, List.take_zero, List.cons_append, List.nil_append, List.append_nil, List.length_cons, List.length_nil, List.drop_nil, List.size_toArray, Nat.reduceAdd, Nat.reduceLeDiff, Nat.reduceBEq, Nat.zero_add, Nat.le_refl, decide_true, mkV, List.headD_cons, cellsV, w_fldV, w_ext, w_fldP, List.getElem?_toArray, List.getElem?_cons_zero, List.getElem?_cons_succ, beq_self_eq_true, selV, hok2]
    refine newT_of fun H6 g6 s6 => ?_
    have g := g.trans g6
    have hdv := (hp.dv.sl (A := fun _ => True) fun _ _ => trivial).g g6
    have hss := (hp.ss.sl (A' := fun _ => True) (fun _ _ _ => trivial) fun _ _ => trivial).g g6
    clear hp
    refine c_dev_Read (ha.g g) (hb.g g) hm1 (by omega) fun got m b1 b2 F1 ws H7 hr g7 => ?_
    have hgot := Rw.got hr
    have hm := hr.o2.sl (A' := fun _ => True) (fun _ _ _ => trivial) fun _ _ => trivial
    clear hr
    have hdv := hdv.g g7
    have hss := hss.g g7
    have g := g.trans g7
    try simp only [sv_cons, sv_cons1, sc_cons, sc_cons1, asB_bool, ifB_true, ifB_false, un_not, bin_lss, bin_leq, bin_gtr, bin_geq, bin_eql, bin_neq, bin_add, bin_sub, bin_mul, ok_int, ok_bool, ok_slice, ok_str, ok_ptr, ok_map, ok_func, ok_iface, ok_nil, List.all_cons, List.all_nil, Bool.and_true, Bool.true_and, seg, setSeg, List.drop_succ_cons, List.drop_zero, List.take_succ_cons, List.take_zero, List.cons_append, List.nil_append, List.append_nil, List.length_cons, List.length_nil, List.drop_nil, List.size_toArray, Nat.reduceAdd, Nat.reduceLeDiff, Nat.reduceBEq, Nat.zero_add, Nat.le_refl, decide_true, mkV, List.headD_cons, cellsV, w_fldV, w_ext, w_fldP, List.getElem?_toArray, List.getElem?_cons_zero, List.getElem?_cons_succ, beq_self_eq_true, selV]
    by_cases he : wrE c d level bs all = 0
    · obtain ⟨w1, w2, w3, w4, w5⟩ := wrE_zero he
      have ha0 : askE c d level bs = 0 := by unfold askE; rw [if_pos w1]; exact levE_zero.2 ⟨w2, w3⟩
      rw [if_pos he] at hdv hss
      rw [if_pos ha0] at hgot hm
      rw [he, ha0]
      try simp only [sv_cons, sv_cons1, sc_cons, sc_cons1, asB_bool, ifB_true, ifB_false, un_not, bin_lss, bin_leq, bin_gtr, bin_geq, bin_eql, bin_neq, bin_add, bin_sub, bin_mul, ok_int, ok_bool, ok_slice, ok_str, ok_ptr, ok_map, ok_func, ok_iface, ok_nil, List.all_cons, List.all_nil, Bool.and_true, Bool.true_and, seg, setSeg, List.drop_succ_cons, List.drop_zero, List.take_succ_cons, List.take_zero, List.cons_append, List.nil_append, List.append_nil, List.length_cons, List.length_nil, List.drop_nil, List.size_toArray, Nat.reduceAdd, Nat.reduceLeDiff, Nat.reduceBEq, Nat.zero_add, Nat.le_refl, decide_true, mkV, List.headD_cons, cellsV, w_fldV, w_ext, w_fldP, List.getElem?_toArray, List.getElem?_cons_zero, List.getElem?_cons_succ, beq_self_eq_true, selV]
      refine join_of (fun s H' => H' = H7 ∧ s = [[.bool false]]) (fun K hK => hK _ _ ⟨rfl, rfl⟩) ?_
      rintro s H8 ⟨rfl, rfl⟩
      try simp only [sv_cons, sv_cons1, sc_cons, sc_cons1, asB_bool, ifB_true, ifB_false, un_not, bin_lss, bin_leq, bin_gtr, bin_geq, bin_eql, bin_neq, bin_add, bin_sub, bin_mul, ok_int, ok_bool, ok_slice, ok_str, ok_ptr, ok_map, ok_func, ok_iface, ok_nil, List.all_cons, List.all_nil, Bool.and_true, Bool.true_and, seg, setSeg, List.drop_succ_cons, List.drop_zero, List.take_succ_cons, List.take_zero, List.cons_append, List.nil_append, List.append_nil, List.length_cons, List.length_nil, List.drop_nil, List.size_toArray, Nat.reduceAdd, Nat.reduceLeDiff, Nat.reduceBEq, Nat.zero_add, Nat.le_refl, decide_true, mkV, List.headD_cons, cellsV, w_fldV, w_ext, w_fldP, List.getElem?_toArray, List.getElem?_cons_zero, List.getElem?_cons_succ, beq_self_eq_true, selV]
      have hdm : Mid (putAll d level bs all) := mid_putAll hm1 hax'
      have lr : (seesR d level bs).length = bs.length := by unfold seesR; rw [List.length_map]
      have lw : (seesW level bs all).length = bs.length := seesW_len w4.symm
      have hrep := repE_RW w1 w2 w3 w5
      have hbe := behind_RW (d := d) (level := level) (l := bs) (all := all)
      refine join_of (fun s H' => G H8 H' ∧ ∃ v, Sl rBys H' (fun _ => True) v (putAll d level bs all) ∧ s = [[v], [.int .i64 0]]) (fun K hK => ?_) ?_
      · have rep : ∀ u H', Al3 H8 u (seesR d level bs ++ seesW level bs all) H' → ∀ k : Value → Heap → Prop, (∀ v H'', okc v = true → G H8 H'' → Sl rBys H'' (fun _ => True) v (putAll d level bs all) → k (tup2 (.agg #[v]) (.int .i64 0)) H'') →
            callV Try.prog (fnV fn_dev_Replay) [.agg (cCfg c).toArray, .agg #[a], u] H' k := fun u H' h k hk => by
          obtain ⟨gg, b, ho, hb'⟩ := h
          refine c_dev_Replay (ha.g (g.trans gg)) (ho.sl (A' := fun _ => True) (fun _ _ _ => trivial) fun _ _ => trivial) hm1 ?_ fun v O' F' H'' hx g' => ?_
          · refine ⟨by rw [List.length_append, lr, lw]; omega, fun s hs => ?_⟩
            have hbr : ∀ x ∈ bs, i64 x := fun x hx => i64_wrap (hb.range x hx)
            rcases List.mem_append.1 hs with hs | hs
            · unfold seesR at hs
              obtain ⟨b, hbl, rfl⟩ := List.mem_map.1 hs
              exact hbr b hbl
            · exact hbr _ (seesW_mem hs).2.2.1
          · rw [hrep, if_pos rfl, hbe] at hx
            rw [hrep]
            exact hk v H'' hx.dv.okcv (gg.trans g') (hx.dv.sl fun _ _ => trivial)
        have fin : ∀ v H', G H8 H' → Sl rBys H' (fun _ => True) v (putAll d level bs all) → K [[v], [.int .i64 0]] H' := fun v H' g h => hK _ _ ⟨g, v, h, rfl⟩
        have hm0 := hm.old
        have hs0 := hss.old
        have z1 : ∀ (k n : Nat), k ≤ 40 → n = 48 → k * n ≤ 140737488355328 := fun k n h e => by subst e; omega
        constructor
        · refine Al3.nil (G.fr (Fr.refl _ _)) fun u1 G1 h1 => ?_
          constructor
          · refine h1.app hm0 rfl (by rw [lr]; exact z1 _ _ (by simp; omega) rfl) (by rw [lr]; simp; omega) fun u2 G2 h2 => ?_
            constructor
            · refine h2.app hs0 rfl (by rw [List.nil_append, lr, lw]; exact z1 _ _ (by omega) rfl) (by rw [List.nil_append, lr, lw]; omega) fun u3 G3 h3 => ?_
              constructor
              · refine rep u3 G3 h3 _ fun v G4 hv1 g4 hv2 => ?_
                try simp only [sv_cons, sv_cons1, sc_cons, sc_cons1, asB_bool, ifB_true, ifB_false, un_not, bin_lss, bin_leq, bin_gtr, bin_geq, bin_eql, bin_neq, bin_add, bin_sub, bin_mul, ok_int, ok_bool, ok_slice, ok_str, ok_ptr, ok_map, ok_func, ok_iface, ok_nil, List.all_cons, List.all_nil, Bool.and_true, Bool.true_and, seg, setSeg, List.drop_succ_cons, List.drop_zero, List.take_succ_cons, List.take_zero, List.cons_append, List.nil_append, List.append_nil, List.length_cons, List.length_nil, List.drop_nil, List.size_toArray, Nat.reduceAdd, Nat.reduceLeDiff, Nat.reduceBEq, Nat.zero_add, Nat.le_refl, decide_true, mkV, List.headD_cons, cellsV, w_fldV, w_ext, w_fldP, List.getElem?_toArray, List.getElem?_cons_zero, List.getElem?_cons_succ, beq_self_eq_true, selV, hv1]
                exact newT_of fun G5 g5 _ => fin _ _ (g4.trans g5) (hv2.g g5)
              · refine h3.new fun G4 h4 => ?_
                refine rep u3 G4 h4 _ fun v G5 hv1 g5 hv2 => ?_
                try simp only [sv_cons, sv_cons1, sc_cons, sc_cons1, asB_bool, ifB_true, ifB_false, un_not, bin_lss, bin_leq, bin_gtr, bin_geq, bin_eql, bin_neq, bin_add, bin_sub, bin_mul, ok_int, ok_bool, ok_slice, ok_str, ok_ptr, ok_map, ok_func, ok_iface, ok_nil, List.all_cons, List.all_nil, Bool.and_true, Bool.true_and, seg, setSeg, List.drop_succ_cons, List.drop_zero, List.take_succ_cons, List.take_zero, List.cons_append, List.nil_append, List.append_nil, List.length_cons, List.length_nil, List.drop_nil, List.size_toArray, Nat.reduceAdd, Nat.reduceLeDiff, Nat.reduceBEq, Nat.zero_add, Nat.le_refl, decide_true, mkV, List.headD_cons, cellsV, w_fldV, w_ext, w_fldP, List.getElem?_toArray, List.getElem?_cons_zero, List.getElem?_cons_succ, beq_self_eq_true, selV, hv1]
                exact fin _ _ g5 hv2
            · refine h2.new fun G3 h3 => ?_
              refine h3.app hs0 rfl (by rw [List.nil_append, lr, lw]; exact z1 _ _ (by omega) rfl) (by rw [List.nil_append, lr, lw]; omega) fun u3 G4 h4 => ?_
              refine rep u3 G4 h4 _ fun v G5 hv1 g5 hv2 => ?_
              try simp only [sv_cons, sv_cons1, sc_cons, sc_cons1, asB_bool, ifB_true, ifB_false, un_not, bin_lss, bin_leq, bin_gtr, bin_geq, bin_eql, bin_neq, bin_add, bin_sub, bin_mul, ok_int, ok_bool, ok_slice, ok_str, ok_ptr, ok_map, ok_func, ok_iface, ok_nil, List.all_cons, List.all_nil, Bool.and_true, Bool.true_and, seg, setSeg, List.drop_succ_cons, List.drop_zero, List.take_succ_cons, List.take_zero, List.cons_append, List.nil_append, List.append_nil, List.length_cons, List.length_nil, List.drop_nil, List.size_toArray, Nat.reduceAdd, Nat.reduceLeDiff, Nat.reduceBEq, Nat.zero_add, Nat.le_refl, decide_true, mkV, List.headD_cons, cellsV, w_fldV, w_ext, w_fldP, List.getElem?_toArray, List.getElem?_cons_zero, List.getElem?_cons_succ, beq_self_eq_true, selV, hv1]
              exact fin _ _ g5 hv2
          · refine h1.new fun G2 h2 => ?_
            refine h2.app hm0 rfl (by rw [lr]; exact z1 _ _ (by simp; omega) rfl) (by rw [lr]; simp; omega) fun u2 G3 h3 => ?_
            refine h3.app hs0 rfl (by rw [List.nil_append, lr, lw]; exact z1 _ _ (by omega) rfl) (by rw [List.nil_append, lr, lw]; omega) fun u3 G4 h4 => ?_
            refine rep u3 G4 h4 _ fun v G5 hv1 g5 hv2 => ?_
            try simp only [sv_cons, sv_cons1, sc_cons, sc_cons1, asB_bool, ifB_true, ifB_false, un_not, bin_lss, bin_leq, bin_gtr, bin_geq, bin_eql, bin_neq, bin_add, bin_sub, bin_mul, ok_int, ok_bool, ok_slice, ok_str, ok_ptr, ok_map, ok_func, ok_iface, ok_nil, List.all_cons, List.all_nil, Bool.and_true, Bool.true_and, seg, setSeg, List.drop_succ_cons, List.drop_zero, List.take_succ_cons, List.take_zero, List.cons_append, List.nil_append, List.append_nil, List.length_cons, List.length_nil, List.drop_nil, List.size_toArray, Nat.reduceAdd, Nat.reduceLeDiff, Nat.reduceBEq, Nat.zero_add, Nat.le_refl, decide_true, mkV, List.headD_cons, cellsV, w_fldV, w_ext, w_fldP, List.getElem?_toArray, List.getElem?_cons_zero, List.getElem?_cons_succ, beq_self_eq_true, selV, hv1]
            exact fin _ _ g5 hv2
        · refine newT_of fun G1 g1 _ => Al3.nil g1 fun u1 G2 h2 => ?_
          refine h2.app hm0 rfl (by rw [lr]; exact z1 _ _ (by simp; omega) rfl) (by rw [lr]; simp; omega) fun u2 G3 h3 => ?_
          refine h3.app hs0 rfl (by rw [List.nil_append, lr, lw]; exact z1 _ _ (by omega) rfl) (by rw [List.nil_append, lr, lw]; omega) fun u3 G4 h4 => ?_
          refine rep u3 G4 h4 _ fun v G5 hv1 g5 hv2 => ?_
          try simp only [sv_cons, sv_cons1, sc_cons, sc_cons1, asB_bool, ifB_true, ifB_false, un_not, bin_lss, bin_leq, bin_gtr, bin_geq, bin_eql, bin_neq, bin_add, bin_sub, bin_mul, ok_int, ok_bool, ok_slice, ok_str, ok_ptr, ok_map, ok_func, ok_iface, ok_nil, List.all_cons, List.all_nil, Bool.and_true, Bool.true_and, seg, setSeg, List.drop_succ_cons, List.drop_zero, List.take_succ_cons, List.take_zero, List.cons_append, List.nil_append, List.append_nil, List.length_cons, List.length_nil, List.drop_nil, List.size_toArray, Nat.reduceAdd, Nat.reduceLeDiff, Nat.reduceBEq, Nat.zero_add, Nat.le_refl, decide_true, mkV, List.headD_cons, cellsV, w_fldV, w_ext, w_fldP, List.getElem?_toArray, List.getElem?_cons_zero, List.getElem?_cons_succ, beq_self_eq_true, selV, hv1]
          exact fin _ _ g5 hv2
      rintro s H9 ⟨g9, v, hv, rfl⟩
      try simp only [sv_cons, sv_cons1, sc_cons, sc_cons1, asB_bool, ifB_true, ifB_false, un_not, bin_lss, bin_leq, bin_gtr, bin_geq, bin_eql, bin_neq, bin_add, bin_sub, bin_mul, ok_int, ok_bool, ok_slice, ok_str, ok_ptr, ok_map, ok_func, ok_iface, ok_nil, List.all_cons, List.all_nil, Bool.and_true, Bool.true_and, seg, setSeg, List.drop_succ_cons, List.drop_zero, List.take_succ_cons, List.take_zero, List.cons_append, List.nil_append, List.append_nil, List.length_cons, List.length_nil, List.drop_nil, List.size_toArray, Nat.reduceAdd, Nat.reduceLeDiff, Nat.reduceBEq, Nat.zero_add, Nat.le_refl, decide_true, mkV, List.headD_cons, cellsV, w_fldV, w_ext, w_fldP, List.getElem?_toArray, List.getElem?_cons_zero, List.getElem?_cons_succ, beq_self_eq_true, selV]
      refine join_of (fun s H' => H' = H9 ∧ s = [[.bool false]]) (fun K hK => ?_) ?_
      · refine hgot.len (hb.len (w_neI (by rw [List.length_map]) ?_))
        refine hm.len (hb.len (w_neI (by rw [lr]) ?_))
        exact hss.len (hb.len (w_neI (by rw [lw]) (hK _ _ ⟨rfl, rfl⟩)))
      rintro s H10 ⟨rfl, rfl⟩
      try simp only [sv_cons, sv_cons1, sc_cons, sc_cons1, asB_bool, ifB_true, ifB_false, un_not, bin_lss, bin_leq, bin_gtr, bin_geq, bin_eql, bin_neq, bin_add, bin_sub, bin_mul, ok_int, ok_bool, ok_slice, ok_str, ok_ptr, ok_map, ok_func, ok_iface, ok_nil, List.all_cons, List.all_nil, Bool.and_true, Bool.true_and, seg, setSeg, List.drop_succ_cons, List.drop_zero, List.take_succ_cons, List.take_zero, List.cons_append, List.nil_append, List.append_nil, List.length_cons, List.length_nil, List.drop_nil, List.size_toArray, Nat.reduceAdd, Nat.reduceLeDiff, Nat.reduceBEq, Nat.zero_add, Nat.le_refl, decide_true, mkV, List.headD_cons, cellsV, w_fldV, w_ext, w_fldP, List.getElem?_toArray, List.getElem?_cons_zero, List.getElem?_cons_succ, beq_self_eq_true, selV]
      have hgot := hgot.g g9
      have hm := hm.g g9
      have hss := hss.g g9
      have hdv := hdv.g g9
      have g := g.trans g9
      refine loop_up bs.length (fun i s H' => G H10 H' ∧ s = [[.int .i64 (i : Int)]]) ⟨G.fr (Fr.refl _ _), rfl⟩ ?_
      rintro i s H11 K hi ⟨g11, rfl⟩ hK
      refine hb.len ?_
      try simp only [sv_cons, sv_cons1, sc_cons, sc_cons1, asB_bool, ifB_true, ifB_false, un_not, bin_lss, bin_leq, bin_gtr, bin_geq, bin_eql, bin_neq, bin_add, bin_sub, bin_mul, ok_int, ok_bool, ok_slice, ok_str, ok_ptr, ok_map, ok_func, ok_iface, ok_nil, List.all_cons, List.all_nil, Bool.and_true, Bool.true_and, seg, setSeg, List.drop_succ_cons, List.drop_zero, List.take_succ_cons, List.take_zero, List.cons_append, List.nil_append, List.append_nil, List.length_cons, List.length_nil, List.drop_nil, List.size_toArray, Nat.reduceAdd, Nat.reduceLeDiff, Nat.reduceBEq, Nat.zero_add, Nat.le_refl, decide_true, mkV, List.headD_cons, cellsV, w_fldV, w_ext, w_fldP, List.getElem?_toArray, List.getElem?_cons_zero, List.getElem?_cons_succ, beq_self_eq_true, selV]
      refine ifD_of (fun c1 => ?_) (fun c1 => ?_)
      · have hlt : i < bs.length := by omega
        have hlt2 : i < all.length := by omega
        have e1 : (seesR d level bs)[i]? = some ⟨1, level, bs[i], bk d level bs[i]⟩ := by unfold seesR; rw [List.getElem?_map, List.getElem?_eq_getElem hlt]; rfl
        have e2 : (seesW level bs all)[i]? = some ⟨2, level, bs[i], all[i]⟩ := seesW_get (List.getElem?_eq_getElem hlt) (List.getElem?_eq_getElem hlt2)
        have e3 : (bs.map (bk d level))[i]? = some (bk d level bs[i]) := by rw [List.getElem?_map, List.getElem?_eq_getElem hlt]; rfl
        refine join_of (fun s H' => H' = H11 ∧ s = [[.bool false]]) (fun K' hK' => ?_) ?_
        · refine (hm.g g11).at rfl e1 fun p1 cs1 h1 ⟨v1, r1, r2⟩ => ?_
          subst r1
          refine h1.fld1 (by simp) fun p2 h2 => h2.load rfl (w_neI rfl ?_)
          refine (hss.g g11).at rfl e2 fun p3 cs3 h3 ⟨v3, r3, r4⟩ => ?_
          subst r3
          refine h3.fld1 (by simp) fun p4 h4 => h4.load rfl (w_neI rfl ?_)
          refine (hm.g g11).at rfl e1 fun p5 cs5 h5 ⟨v5, r5, r6⟩ => ?_
          subst r5
          refine h5.fld1 (by simp) fun p6 h6 => h6.load rfl (w_neI rfl ?_)
          refine (hm.g g11).at rfl e1 fun p7 cs7 h7 ⟨v7, r7, r8⟩ => ?_
          subst r7
          refine h7.fld1 (by simp) fun p8 h8 => h8.load rfl ?_
          refine (hb.g (g.trans g11)).atI (List.getElem?_eq_getElem hlt) fun p9 h9 _ => h9.load rfl (w_neI rfl ?_)
          refine (hm.g g11).at rfl e1 fun p10 cs10 h10 ⟨v10, r10, r11⟩ => ?_
          subst r10
          refine h10.fld1 (by simp) fun p11 h11 => h11.load rfl ?_
          refine (hgot.g g11).atS e3 fun p12 u12 h12 hu12 => h12.load rfl ?_
          refine c_ref01_Same r11 hu12 ?_
          rw [decide_eq_true rfl]
          refine ⟨h9.load rfl rfl, h8.load rfl rfl, h6.load rfl rfl, h4.load rfl rfl, h2.load rfl rfl, w_not ?_⟩
          refine (hss.g g11).at rfl e2 fun p13 cs13 h13 ⟨v13, r13, r14⟩ => ?_
          subst r13
          refine h13.fld1 (by simp) fun p14 h14 => h14.load rfl ?_
          refine (hw.g (g.trans g11)).atS (List.getElem?_eq_getElem hlt2) fun p15 u15 h15 hu15 => h15.load rfl ?_
          refine c_ref01_Same r14 hu15 ?_
          rw [decide_eq_true rfl]
          exact ⟨h9.load rfl rfl, h8.load rfl rfl, h6.load rfl rfl, h4.load rfl rfl, h2.load rfl rfl, w_not (hK' _ _ ⟨rfl, rfl⟩)⟩
        rintro s H12 ⟨rfl, rfl⟩
        try simp only [sv_cons, sv_cons1, sc_cons, sc_cons1, asB_bool, ifB_true, ifB_false, un_not, bin_lss, bin_leq, bin_gtr, bin_geq, bin_eql, bin_neq, bin_add, bin_sub, bin_mul, ok_int, ok_bool, ok_slice, ok_str, ok_ptr, ok_map, ok_func, ok_iface, ok_nil, List.all_cons, List.all_nil, Bool.and_true, Bool.true_and, seg, setSeg, List.drop_succ_cons, List.drop_zero, List.take_succ_cons, List.take_zero, List.cons_append, List.nil_append, List.append_nil, List.length_cons, List.length_nil, List.drop_nil, List.size_toArray, Nat.reduceAdd, Nat.reduceLeDiff, Nat.reduceBEq, Nat.zero_add, Nat.le_refl, decide_true, mkV, List.headD_cons, cellsV, w_fldV, w_ext, w_fldP, List.getElem?_toArray, List.getElem?_cons_zero, List.getElem?_cons_succ, beq_self_eq_true, selV]
        rw [wrap_i64 (by unfold i64; omega)]
        exact hK _ _ hlt ⟨g11, by simp⟩
      · refine join_of (fun s H' => G H11 H' ∧ s = [[.bool true]]) (fun K' hK' => ?_) ?_
        · refine c_ref12_Same (hdv.g g11) (hv.g g11) (by have := hdm.1; omega) (fun x hx => by have := (hdm.2 x hx).1; omega) fun H13 g13 => ?_
          rw [decide_eq_true rfl]
          exact hK' _ _ ⟨g13, rfl⟩
        rintro s H13 ⟨g13, rfl⟩
        exact hQ _ ((g.trans g11).trans g13)
    · try simp only [sv_cons, sv_cons1, sc_cons, sc_cons1, asB_bool, ifB_true, ifB_false, un_not, bin_lss, bin_leq, bin_gtr, bin_geq, bin_eql, bin_neq, bin_add, bin_sub, bin_mul, ok_int, ok_bool, ok_slice, ok_str, ok_ptr, ok_map, ok_func, ok_iface, ok_nil, List.all_cons, List.all_nil, Bool.and_true, Bool.true_and, seg, setSeg, List.drop_succ_cons, List.drop_zero, List.take_succ_cons, List.take_zero, List.cons_append, List.nil_append, List.append_nil, List.length_cons, List.length_nil, List.drop_nil, List.size_toArray, Nat.reduceAdd, Nat.reduceLeDiff, Nat.reduceBEq, Nat.zero_add, Nat.le_refl, decide_true, mkV, List.headD_cons, cellsV, w_fldV, w_ext, w_fldP, List.getElem?_toArray, List.getElem?_cons_zero, List.getElem?_cons_succ, beq_self_eq_true, selV]
      rw [show decide (wrE c d level bs all ≠ 0) = true from decide_eq_true he]
      try simp only [sv_cons, sv_cons1, sc_cons, sc_cons1, asB_bool, ifB_true, ifB_false, un_not, bin_lss, bin_leq, bin_gtr, bin_geq, bin_eql, bin_neq, bin_add, bin_sub, bin_mul, ok_int, ok_bool, ok_slice, ok_str, ok_ptr, ok_map, ok_func, ok_iface, ok_nil, List.all_cons, List.all_nil, Bool.and_true, Bool.true_and, seg, setSeg, List.drop_succ_cons, List.drop_zero, List.take_succ_cons, List.take_zero, List.cons_append, List.nil_append, List.append_nil, List.length_cons, List.length_nil, List.drop_nil, List.size_toArray, Nat.reduceAdd, Nat.reduceLeDiff, Nat.reduceBEq, Nat.zero_add, Nat.le_refl, decide_true, mkV, List.headD_cons, cellsV, w_fldV, w_ext, w_fldP, List.getElem?_toArray, List.getElem?_cons_zero, List.getElem?_cons_succ, beq_self_eq_true, selV]
      refine join_of (fun s H' => H' = H7 ∧ s = [[.bool true]]) (fun K hK => hK _ _ ⟨rfl, rfl⟩) ?_
      rintro s H8 ⟨rfl, rfl⟩
      try simp only [sv_cons, sv_cons1, sc_cons, sc_cons1, asB_bool, ifB_true, ifB_false, un_not, bin_lss, bin_leq, bin_gtr, bin_geq, bin_eql, bin_neq, bin_add, bin_sub, bin_mul, ok_int, ok_bool, ok_slice, ok_str, ok_ptr, ok_map, ok_func, ok_iface, ok_nil, List.all_cons, List.all_nil, Bool.and_true, Bool.true_and, seg, setSeg, List.drop_succ_cons, List.drop_zero, List.take_succ_cons, List.take_zero, List.cons_append, List.nil_append, List.append_nil, List.length_cons, List.length_nil, List.drop_nil, List.size_toArray, Nat.reduceAdd, Nat.reduceLeDiff, Nat.reduceBEq, Nat.zero_add, Nat.le_refl, decide_true, mkV, List.headD_cons, cellsV, w_fldV, w_ext, w_fldP, List.getElem?_toArray, List.getElem?_cons_zero, List.getElem?_cons_succ, beq_self_eq_true, selV]
      refine join_of (fun s H' => H' = H8 ∧ s = [[.bool true]]) (fun K hK => ?_) ?_
      · try simp only [sv_cons, sv_cons1, sc_cons, sc_cons1, asB_bool, ifB_true, ifB_false, un_not, bin_lss, bin_leq, bin_gtr, bin_geq, bin_eql, bin_neq, bin_add, bin_sub, bin_mul, ok_int, ok_bool, ok_slice, ok_str, ok_ptr, ok_map, ok_func, ok_iface, ok_nil, List.all_cons, List.all_nil, Bool.and_true, Bool.true_and, seg, setSeg, List.drop_succ_cons, List.drop_zero, List.take_succ_cons, List.take_zero, List.cons_append, List.nil_append, List.append_nil, List.length_cons, List.length_nil, List.drop_nil, List.size_toArray, Nat.reduceAdd, Nat.reduceLeDiff, Nat.reduceBEq, Nat.zero_add, Nat.le_refl, decide_true, mkV, List.headD_cons, cellsV, w_fldV, w_ext, w_fldP, List.getElem?_toArray, List.getElem?_cons_zero, List.getElem?_cons_succ, beq_self_eq_true, selV]
        exact hK _ _ ⟨rfl, rfl⟩
      rintro s H9 ⟨rfl, rfl⟩
      exact hQ _ g

end Go.Proofs.Ytikebhnnmnlgaaa
