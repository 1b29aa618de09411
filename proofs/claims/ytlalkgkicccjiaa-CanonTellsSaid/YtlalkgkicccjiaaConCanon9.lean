/- Contracts: the document's answer for canonical traces: which texts may be, and what is seen. -/
import Derived.Test.YtlalkgkicccjiaaConCanon7
import Derived.Test.YtlalkgkicccjiaaConRef12c
import Derived.Test.YtlalkgkicccjiaaConRef12b
namespace Go.Proofs.Ytlalkgkicccjiaa
open Go.Ab Go.Md
set_option linter.unusedVariables false
set_option linter.unusedSimpArgs false
set_option maxRecDepth 20000

variable {H : Heap} {Q : Value → Heap → Prop} {A B C : Nat → Prop}

theorem allT_pos {l : List Lvl} {cells : List (List Int)} {ticks : Nat} (h : ∀ x ∈ l, x.ok) : ∀ t ∈ allT l cells ticks, (t.kind = 1 ∨ t.kind = 2) ∧ ∀ b ∈ t.at', 1 ≤ b := fun t ht => by
  have := allT_ok h t ht
  obtain ⟨x, _, _, hb⟩ := this.ex
  exact ⟨this.kind, fun b hm => (hb b hm).1⟩

theorem c_ref22_Texts {c : Cfg} {w a : Value} {cells : List (List Int)} {all : List By} {ticks : Nat} (hm : c.may) (hc : Sl (rSl (rI .u32)) H A w cells) (ha : Sl rBy H B a all) (ht : ticks ≤ 512) (hcl : cells.length ≤ 1000000) (hal : all.length ≤ 1000000)
    (hQ : ∀ H', G H H' → Q (.bool (decide (fitV c.all cells all ticks))) H') : callV Try.prog (fnV fn_ref22_Texts) [.agg (cCfg c).toArray, w, a, .int .i64 (ticks : Int)] H Q := by
  apply S_ref22_Texts_of
  unfold S_ref22_Texts
  have hc := hc.old
  have ha := ha.old
  refine newT_of fun H1 g1 s1 => c_ref08_All hm.1 fun lv H2 hl g2 => ?_
  have hok := lvl_ok hl
  have h4 := hm.2
  have g := g1.trans g2
  have bad : ∀ H', ¬ fitV c.all cells all ticks → G H H' → Q (.bool false) H' := fun H' h g => by
    have := hQ H' g
    rw [decide_eq_false h] at this
    exact this
  refine join_of (fun s H' => G H2 H' ∧ ∃ b : Bool, s = [[.bool b]] ∧ (b = false ↔ cells.length = c.all.length ∧ (all.length : Int) = firstI c.all + tickI c.all * ticks)) (fun K hK => ?_) ?_
  · refine (hc.g g).len ?_
    refine hl.len ?_
    try simp only [sv_cons, sv_cons1, sc_cons, sc_cons1, asB_bool, ifB_true, ifB_false, un_not, bin_lss, bin_leq, bin_gtr, bin_geq, bin_eql, bin_neq, bin_add, bin_sub, bin_mul, ok_int, ok_bool, ok_slice, ok_str, ok_ptr, ok_map, ok_func, ok_iface, ok_nil, List.all_cons, List.all_nil, Bool.and_true, Bool.true_and, seg, setSeg, List.drop_succ_cons, List.drop_zero, List.take_succ_cons, List.take_zero, List.cons_append, List.nil_append, List.append_nil, List.length_cons, List.length_nil, List.drop_nil, List.size_toArray, Nat.reduceAdd, Nat.reduceLeDiff, Nat.reduceBEq, Nat.zero_add, Nat.le_refl, decide_true, mkV, List.headD_cons, cellsV, w_fldV, w_ext, w_fldP, List.getElem?_toArray, List.getElem?_cons_zero, List.getElem?_cons_succ, beq_self_eq_true, selV]
    refine ifD_of (fun c1 => hK _ _ ⟨G.fr (Fr.refl _ _), true, rfl, by simp; intro h; omega⟩) (fun c1 => ?_)
    refine (ha.g g).len ?_
    refine c_ref22_Many hm (by omega) fun H3 g3 => ?_
    try simp only [sv_cons, sv_cons1, sc_cons, sc_cons1, asB_bool, ifB_true, ifB_false, un_not, bin_lss, bin_leq, bin_gtr, bin_geq, bin_eql, bin_neq, bin_add, bin_sub, bin_mul, ok_int, ok_bool, ok_slice, ok_str, ok_ptr, ok_map, ok_func, ok_iface, ok_nil, List.all_cons, List.all_nil, Bool.and_true, Bool.true_and, seg, setSeg, List.drop_succ_cons, List.drop_zero, List.take_succ_cons, List.take_zero, List.cons_append, List.nil_append, List.append_nil, List.length_cons, List.length_nil, List.drop_nil, List.size_toArray, Nat.reduceAdd, Nat.reduceLeDiff, Nat.reduceBEq, Nat.zero_add, Nat.le_refl, decide_true, mkV, List.headD_cons, cellsV, w_fldV, w_ext, w_fldP, List.getElem?_toArray, List.getElem?_cons_zero, List.getElem?_cons_succ, beq_self_eq_true, selV]
    refine hK _ _ ⟨g3, _, rfl, ?_⟩
    rw [decide_eq_false_iff_not]
    omega
  rintro s H3 ⟨g3, b, rfl, hb⟩
  have g03 := g.trans g3
  try simp only [sv_cons, sv_cons1, sc_cons, sc_cons1, asB_bool, ifB_true, ifB_false, un_not, bin_lss, bin_leq, bin_gtr, bin_geq, bin_eql, bin_neq, bin_add, bin_sub, bin_mul, ok_int, ok_bool, ok_slice, ok_str, ok_ptr, ok_map, ok_func, ok_iface, ok_nil, List.all_cons, List.all_nil, Bool.and_true, Bool.true_and, seg, setSeg, List.drop_succ_cons, List.drop_zero, List.take_succ_cons, List.take_zero, List.cons_append, List.nil_append, List.append_nil, List.length_cons, List.length_nil, List.drop_nil, List.size_toArray, Nat.reduceAdd, Nat.reduceLeDiff, Nat.reduceBEq, Nat.zero_add, Nat.le_refl, decide_true, mkV, List.headD_cons, cellsV, w_fldV, w_ext, w_fldP, List.getElem?_toArray, List.getElem?_cons_zero, List.getElem?_cons_succ, beq_self_eq_true, selV]
  refine ifB_of (fun hbt => bad _ (fun h => by have := hb.2 ⟨h.1.1, h.2.1⟩; rw [hbt] at this; cases this) g03) (fun hbf => ?_)
  obtain ⟨hcl1, hmany⟩ := hb.1 hbf
  refine loop_up cells.length (fun i st H' => H' = H3 ∧ st = [[.int .i64 (i : Int)]] ∧ ∀ x ∈ cells.take i, x.length = 2 * ticks) ⟨rfl, rfl, by simp⟩ ?_
  rintro i st H' K hi ⟨rfl, rfl, hin⟩ hK
  refine (hc.g g03).len ?_
  try simp only [sv_cons, sv_cons1, sc_cons, sc_cons1, asB_bool, ifB_true, ifB_false, un_not, bin_lss, bin_leq, bin_gtr, bin_geq, bin_eql, bin_neq, bin_add, bin_sub, bin_mul, ok_int, ok_bool, ok_slice, ok_str, ok_ptr, ok_map, ok_func, ok_iface, ok_nil, List.all_cons, List.all_nil, Bool.and_true, Bool.true_and, seg, setSeg, List.drop_succ_cons, List.drop_zero, List.take_succ_cons, List.take_zero, List.cons_append, List.nil_append, List.append_nil, List.length_cons, List.length_nil, List.drop_nil, List.size_toArray, Nat.reduceAdd, Nat.reduceLeDiff, Nat.reduceBEq, Nat.zero_add, Nat.le_refl, decide_true, mkV, List.headD_cons, cellsV, w_fldV, w_ext, w_fldP, List.getElem?_toArray, List.getElem?_cons_zero, List.getElem?_cons_succ, beq_self_eq_true, selV]
  refine ifD_of (fun c1 => ?_) (fun c1 => ?_)
  · have hlt : i < cells.length := by omega
    refine (hc.g g03).getS (List.getElem?_eq_getElem hlt) fun u hu => hu.len ?_
    try simp only [sv_cons, sv_cons1, sc_cons, sc_cons1, asB_bool, ifB_true, ifB_false, un_not, bin_lss, bin_leq, bin_gtr, bin_geq, bin_eql, bin_neq, bin_add, bin_sub, bin_mul, ok_int, ok_bool, ok_slice, ok_str, ok_ptr, ok_map, ok_func, ok_iface, ok_nil, List.all_cons, List.all_nil, Bool.and_true, Bool.true_and, seg, setSeg, List.drop_succ_cons, List.drop_zero, List.take_succ_cons, List.take_zero, List.cons_append, List.nil_append, List.append_nil, List.length_cons, List.length_nil, List.drop_nil, List.size_toArray, Nat.reduceAdd, Nat.reduceLeDiff, Nat.reduceBEq, Nat.zero_add, Nat.le_refl, decide_true, mkV, List.headD_cons, cellsV, w_fldV, w_ext, w_fldP, List.getElem?_toArray, List.getElem?_cons_zero, List.getElem?_cons_succ, beq_self_eq_true, selV]
    rw [wrap_i64 (x := 2 * (ticks : Int)) (by unfold i64; omega)]
    refine ifD_of (fun c2 => bad _ (fun h => by have := h.1.2 _ (List.getElem_mem hlt); omega) g03) (fun c2 => ?_)
    rw [wrap_i64 (x := (i : Int) + 1) (by unfold i64; omega)]
    refine hK _ _ hlt ⟨rfl, by simp, fun x hx => ?_⟩
    rw [List.take_succ_eq_append_getElem hlt, List.mem_append, List.mem_singleton] at hx
    rcases hx with hx | rfl
    · exact hin x hx
    · omega
  rw [List.take_of_length_le (by omega)] at hin
  have hco : CellsOk c.all cells ticks := ⟨hcl1, hin⟩
  refine c_ref22_writes hm (hc.g g03) hco ht fun pv H4 hp g4 => ?_
  have g04 := g03.trans g4
  have hl4 := hl.g (g3.trans g4)
  have ha4 := ha.g g04
  have hTok := allT_ok (cells := cells) (ticks := ticks) hok
  have hws := wr_all (cells := cells) (ticks := ticks) hok
  have hwp := wrP_eq _ (allT_pos (cells := cells) (ticks := ticks) hok)
  have hPok := plL_ok hTok
  have hPl := pl_bound hTok
  have hTl : (allT c.all cells ticks).length ≤ 10000 := by
    rw [allT_len]
    have h1 : 4 * c.all.length * ticks ≤ 16 * 512 := Nat.mul_le_mul (by omega) (by omega)
    omega
  have hfit : fitV c.all cells all ticks ↔ fitP c.all all (wrP (plL (allT c.all cells ticks))) := by
    rw [hwp]
    exact ⟨fun h => h.2.2, fun h => ⟨hco, hmany, h⟩⟩
  have hwl : (wrP (plL (allT c.all cells ticks))).length = all.length := by rw [hwp]; omega
  generalize plL (allT c.all cells ticks) = P at *
  refine loop_up P.length (fun i st H' => H' = H4 ∧ st = [[.int .i64 ((wrP (P.take i)).length : Int)], [.int .i64 (i : Int)]] ∧ ∀ (k lev : Nat), k < (wrP (P.take i)).length → (wrP P)[k]? = some lev → okT c.all all k lev) ⟨rfl, by simp [wrP], by simp [wrP]⟩ ?_
  rintro i st H5 K5 hi5 ⟨rfl, rfl, hin5⟩ hK5
  refine hp.len ?_
  try simp only [sv_cons, sv_cons1, sc_cons, sc_cons1, asB_bool, ifB_true, ifB_false, un_not, bin_lss, bin_leq, bin_gtr, bin_geq, bin_eql, bin_neq, bin_add, bin_sub, bin_mul, ok_int, ok_bool, ok_slice, ok_str, ok_ptr, ok_map, ok_func, ok_iface, ok_nil, List.all_cons, List.all_nil, Bool.and_true, Bool.true_and, seg, setSeg, List.drop_succ_cons, List.drop_zero, List.take_succ_cons, List.take_zero, List.cons_append, List.nil_append, List.append_nil, List.length_cons, List.length_nil, List.drop_nil, List.size_toArray, Nat.reduceAdd, Nat.reduceLeDiff, Nat.reduceBEq, Nat.zero_add, Nat.le_refl, decide_true, mkV, List.headD_cons, cellsV, w_fldV, w_ext, w_fldP, List.getElem?_toArray, List.getElem?_cons_zero, List.getElem?_cons_succ, beq_self_eq_true, selV]
  refine ifD_of (fun c2 => ?_) (fun c2 => ?_)
  · have hlt : i < P.length := by omega
    have hpi : P[i]? = some P[i] := List.getElem?_eq_getElem hlt
    obtain ⟨h0, x, hx, ho, hb5⟩ := hPok _ (List.getElem_mem hlt)
    have hstep := wrP_take hpi
    have hget := wrP_get hpi
    have hnl : (wrP (P.take i)).length ≤ P.length := by unfold wrP; rw [List.length_map]; exact Nat.le_trans (List.length_filter_le _ _) (by rw [List.length_take]; omega)
    generalize P[i] = p at *
    obtain ⟨pl, pb⟩ := p
    simp only at h0 hx hb5 hstep hget
    obtain ⟨lev, rfl⟩ := Int.eq_ofNat_of_zero_le h0
    simp only [Int.toNat_natCast] at hx hget
    obtain ⟨_, _, _, _, o1, o2, o3, o4⟩ := id ho
    have hmb := many_bound o1 o2
    generalize hn : (wrP (P.take i)).length = n at *
    refine join_of (fun s H' => H' = H5 ∧ s = [[.int .i64 ((wrP (P.take (i + 1))).length : Int)]] ∧ ∀ (k lev : Nat), k < (wrP (P.take (i + 1))).length → (wrP P)[k]? = some lev → okT c.all all k lev) (fun K6 hK6 => ?_) ?_
    · refine hp.at rfl hpi fun q cs hq hr => ?_
      obtain ⟨rfl, _⟩ := hr
      refine hq.fld1 (by simp) fun q1 hq1 => hq1.load rfl ?_
      try simp only [sv_cons, sv_cons1, sc_cons, sc_cons1, asB_bool, ifB_true, ifB_false, un_not, bin_lss, bin_leq, bin_gtr, bin_geq, bin_eql, bin_neq, bin_add, bin_sub, bin_mul, ok_int, ok_bool, ok_slice, ok_str, ok_ptr, ok_map, ok_func, ok_iface, ok_nil, List.all_cons, List.all_nil, Bool.and_true, Bool.true_and, seg, setSeg, List.drop_succ_cons, List.drop_zero, List.take_succ_cons, List.take_zero, List.cons_append, List.nil_append, List.append_nil, List.length_cons, List.length_nil, List.drop_nil, List.size_toArray, Nat.reduceAdd, Nat.reduceLeDiff, Nat.reduceBEq, Nat.zero_add, Nat.le_refl, decide_true, mkV, List.headD_cons, cellsV, w_fldV, w_ext, w_fldP, List.getElem?_toArray, List.getElem?_cons_zero, List.getElem?_cons_succ, beq_self_eq_true, selV]
      refine ifD_of (fun c3 => hK6 _ _ ⟨rfl, by rw [hstep, if_neg (by omega)]; simp, by rw [hstep, if_neg (by omega)]; simpa using hin5⟩) (fun c3 => ?_)
      have hwn := hget (by omega)
      have hna : n < all.length := by have := (List.getElem?_eq_some_iff.1 hwn).1; omega
      have hax : all[n]? = some all[n] := List.getElem?_eq_getElem hna
      have hgd : all.getD n [] = all[n] := by rw [List.getD_eq_getElem?_getD, hax]; rfl
      have hokT : okT c.all all n lev ↔ ((all[n].length : Int) = 8 + x.width ∧ numB all[n] = n) := by
        unfold okT
        rw [hgd]
        exact ⟨fun ⟨y, h1, h2, h3⟩ => by rw [hx] at h1; cases h1; exact ⟨h2, h3⟩, fun ⟨h2, h3⟩ => ⟨x, hx, h2, h3⟩⟩
      generalize all[n] = bs at *
      refine join_of (fun s H' => H' = H5 ∧ ∃ b : Bool, s = [[.bool b]] ∧ (b = false ↔ okT c.all all n lev)) (fun K7 hK7 => ?_) ?_
      · refine ha4.atS hax fun p1 u hp1 hu => hp1.load rfl ?_
        try simp only [sv_cons, sv_cons1, sc_cons, sc_cons1, asB_bool, ifB_true, ifB_false, un_not, bin_lss, bin_leq, bin_gtr, bin_geq, bin_eql, bin_neq, bin_add, bin_sub, bin_mul, ok_int, ok_bool, ok_slice, ok_str, ok_ptr, ok_map, ok_func, ok_iface, ok_nil, List.all_cons, List.all_nil, Bool.and_true, Bool.true_and, seg, setSeg, List.drop_succ_cons, List.drop_zero, List.take_succ_cons, List.take_zero, List.cons_append, List.nil_append, List.append_nil, List.length_cons, List.length_nil, List.drop_nil, List.size_toArray, Nat.reduceAdd, Nat.reduceLeDiff, Nat.reduceBEq, Nat.zero_add, Nat.le_refl, decide_true, mkV, List.headD_cons, cellsV, w_fldV, w_ext, w_fldP, List.getElem?_toArray, List.getElem?_cons_zero, List.getElem?_cons_succ, beq_self_eq_true, selV]
        refine hu.len ?_
        refine hp.at rfl hpi fun q cs hq hr => ?_
        obtain ⟨rfl, _⟩ := hr
        refine hq.fld1 (by simp) fun q1 hq1 => hq1.load rfl ?_
        try simp only [sv_cons, sv_cons1, sc_cons, sc_cons1, asB_bool, ifB_true, ifB_false, un_not, bin_lss, bin_leq, bin_gtr, bin_geq, bin_eql, bin_neq, bin_add, bin_sub, bin_mul, ok_int, ok_bool, ok_slice, ok_str, ok_ptr, ok_map, ok_func, ok_iface, ok_nil, List.all_cons, List.all_nil, Bool.and_true, Bool.true_and, seg, setSeg, List.drop_succ_cons, List.drop_zero, List.take_succ_cons, List.take_zero, List.cons_append, List.nil_append, List.append_nil, List.length_cons, List.length_nil, List.drop_nil, List.size_toArray, Nat.reduceAdd, Nat.reduceLeDiff, Nat.reduceBEq, Nat.zero_add, Nat.le_refl, decide_true, mkV, List.headD_cons, cellsV, w_fldV, w_ext, w_fldP, List.getElem?_toArray, List.getElem?_cons_zero, List.getElem?_cons_succ, beq_self_eq_true, selV]
        refine hl4.at rfl hx fun q2 cs hq2 hr => ?_
        obtain ⟨rfl, _⟩ := hr
        refine hq2.fld1 (by simp) fun q3 hq3 => hq3.load rfl ?_
        try simp only [sv_cons, sv_cons1, sc_cons, sc_cons1, asB_bool, ifB_true, ifB_false, un_not, bin_lss, bin_leq, bin_gtr, bin_geq, bin_eql, bin_neq, bin_add, bin_sub, bin_mul, ok_int, ok_bool, ok_slice, ok_str, ok_ptr, ok_map, ok_func, ok_iface, ok_nil, List.all_cons, List.all_nil, Bool.and_true, Bool.true_and, seg, setSeg, List.drop_succ_cons, List.drop_zero, List.take_succ_cons, List.take_zero, List.cons_append, List.nil_append, List.append_nil, List.length_cons, List.length_nil, List.drop_nil, List.size_toArray, Nat.reduceAdd, Nat.reduceLeDiff, Nat.reduceBEq, Nat.zero_add, Nat.le_refl, decide_true, mkV, List.headD_cons, cellsV, w_fldV, w_ext, w_fldP, List.getElem?_toArray, List.getElem?_cons_zero, List.getElem?_cons_succ, beq_self_eq_true, selV]
        rw [wrap_i64 (x := 8 + x.width) (by unfold i64; omega)]
        refine ifD_of (fun c4 => ?_) (fun c4 => ?_)
        · refine ⟨hq3.load rfl rfl, hq1.load rfl rfl, hu.len rfl, hp1.load rfl rfl, ?_⟩
          exact hK7 _ _ ⟨rfl, true, rfl, by simp; intro h; exact absurd (hokT.1 h).1 c4⟩
        · refine ha4.atS hax fun p2 u2 hp2 hu2 => hp2.load rfl ?_
          try simp only [sv_cons, sv_cons1, sc_cons, sc_cons1, asB_bool, ifB_true, ifB_false, un_not, bin_lss, bin_leq, bin_gtr, bin_geq, bin_eql, bin_neq, bin_add, bin_sub, bin_mul, ok_int, ok_bool, ok_slice, ok_str, ok_ptr, ok_map, ok_func, ok_iface, ok_nil, List.all_cons, List.all_nil, Bool.and_true, Bool.true_and, seg, setSeg, List.drop_succ_cons, List.drop_zero, List.take_succ_cons, List.take_zero, List.cons_append, List.nil_append, List.append_nil, List.length_cons, List.length_nil, List.drop_nil, List.size_toArray, Nat.reduceAdd, Nat.reduceLeDiff, Nat.reduceBEq, Nat.zero_add, Nat.le_refl, decide_true, mkV, List.headD_cons, cellsV, w_fldV, w_ext, w_fldP, List.getElem?_toArray, List.getElem?_cons_zero, List.getElem?_cons_succ, beq_self_eq_true, selV]
          refine hu2.cut (n := 1) (lo := 0) (hi := 8) rfl (by omega) (by omega) (by omega) optI_none optI_some fun u3 hu3 => ?_
          rw [List.drop_zero, Nat.sub_zero] at hu3
          rw [cv_nat (by show n < 2 ^ 64; omega)]
          refine c_ref01_Number8 hu3 (by rw [List.length_take]; omega) ?_
          refine ⟨hp2.load rfl rfl, hq3.load rfl rfl, hq1.load rfl rfl, hu.len rfl, hp1.load rfl rfl, ?_⟩
          try simp only [sv_cons, sv_cons1, sc_cons, sc_cons1, asB_bool, ifB_true, ifB_false, un_not, bin_lss, bin_leq, bin_gtr, bin_geq, bin_eql, bin_neq, bin_add, bin_sub, bin_mul, ok_int, ok_bool, ok_slice, ok_str, ok_ptr, ok_map, ok_func, ok_iface, ok_nil, List.all_cons, List.all_nil, Bool.and_true, Bool.true_and, seg, setSeg, List.drop_succ_cons, List.drop_zero, List.take_succ_cons, List.take_zero, List.cons_append, List.nil_append, List.append_nil, List.length_cons, List.length_nil, List.drop_nil, List.size_toArray, Nat.reduceAdd, Nat.reduceLeDiff, Nat.reduceBEq, Nat.zero_add, Nat.le_refl, decide_true, mkV, List.headD_cons, cellsV, w_fldV, w_ext, w_fldP, List.getElem?_toArray, List.getElem?_cons_zero, List.getElem?_cons_succ, beq_self_eq_true, selV]
          refine hK7 _ _ ⟨rfl, _, rfl, ?_⟩
          rw [hokT, decide_eq_false_iff_not]
          unfold numB
          omega
      · rintro s H' ⟨rfl, b, rfl, hb7⟩
        try simp only [sv_cons, sv_cons1, sc_cons, sc_cons1, asB_bool, ifB_true, ifB_false, un_not, bin_lss, bin_leq, bin_gtr, bin_geq, bin_eql, bin_neq, bin_add, bin_sub, bin_mul, ok_int, ok_bool, ok_slice, ok_str, ok_ptr, ok_map, ok_func, ok_iface, ok_nil, List.all_cons, List.all_nil, Bool.and_true, Bool.true_and, seg, setSeg, List.drop_succ_cons, List.drop_zero, List.take_succ_cons, List.take_zero, List.cons_append, List.nil_append, List.append_nil, List.length_cons, List.length_nil, List.drop_nil, List.size_toArray, Nat.reduceAdd, Nat.reduceLeDiff, Nat.reduceBEq, Nat.zero_add, Nat.le_refl, decide_true, mkV, List.headD_cons, cellsV, w_fldV, w_ext, w_fldP, List.getElem?_toArray, List.getElem?_cons_zero, List.getElem?_cons_succ, beq_self_eq_true, selV]
        refine ifB_of (fun hbt => bad _ (fun h => by have := hb7.2 (hfit.1 h n lev hwn); rw [hbt] at this; cases this) g04) (fun hbf => ?_)
        rw [wrap_i64 (x := (n : Int) + 1) (by unfold i64; omega)]
        refine hK6 _ _ ⟨rfl, by rw [hstep, if_pos (by omega)]; simp, fun k lev' hk hwk => ?_⟩
        rw [hstep, if_pos (by omega)] at hk
        by_cases e : k = n
        · subst e
          rw [hwn] at hwk
          cases hwk
          exact hb7.1 hbf
        · exact hin5 k lev' (by omega) hwk
    · rintro s H' ⟨rfl, rfl, h6⟩
      try simp only [sv_cons, sv_cons1, sc_cons, sc_cons1, asB_bool, ifB_true, ifB_false, un_not, bin_lss, bin_leq, bin_gtr, bin_geq, bin_eql, bin_neq, bin_add, bin_sub, bin_mul, ok_int, ok_bool, ok_slice, ok_str, ok_ptr, ok_map, ok_func, ok_iface, ok_nil, List.all_cons, List.all_nil, Bool.and_true, Bool.true_and, seg, setSeg, List.drop_succ_cons, List.drop_zero, List.take_succ_cons, List.take_zero, List.cons_append, List.nil_append, List.append_nil, List.length_cons, List.length_nil, List.drop_nil, List.size_toArray, Nat.reduceAdd, Nat.reduceLeDiff, Nat.reduceBEq, Nat.zero_add, Nat.le_refl, decide_true, mkV, List.headD_cons, cellsV, w_fldV, w_ext, w_fldP, List.getElem?_toArray, List.getElem?_cons_zero, List.getElem?_cons_succ, beq_self_eq_true, selV]
      rw [wrap_i64 (x := (i : Int) + 1) (by unfold i64; omega)]
      exact hK5 _ _ hlt ⟨rfl, by simp, h6⟩
  · rw [List.take_of_length_le (by omega)] at hin5
    have := hQ H5 g04
    rw [decide_eq_true (hfit.2 fun k lev hk => hin5 k lev (List.getElem?_eq_some_iff.1 hk).1 hk)] at this
    exact this

theorem c_ref22_Seen {c : Cfg} {w a : Value} {cells : List (List Int)} {all : List By} {ticks : Nat} (hm : c.may) (hc : Sl (rSl (rI .u32)) H A w cells) (ha : Sl rBy H B a all) (ht : ticks ≤ 512) (hal : all.length ≤ 1000000) (hf : fitV c.all cells all ticks)
    (hQ : ∀ v H', Sl rSee H' (fun y => H.size ≤ y) v (runP c all (plL (allT c.all cells ticks))).2.2 → G H H' → Q v H') : callV Try.prog (fnV fn_ref22_Seen) [.agg (cCfg c).toArray, w, a, .int .i64 (ticks : Int)] H Q := by
  apply S_ref22_Seen_of
  unfold S_ref22_Seen
  have hc := hc.old
  have ha := ha.old
  have hok := Cfg.all_ok hm.1
  refine newT_of fun H1 g1 s1 => c_ref12_BlankO hm.1 fun v H2 O F hd g2 => newT_of fun H3 g3 s3 => ?_
  have g := (g1.trans g2).trans g3
  have hd := hd.g g3
  have hz1 := g1.size
  try simp only [sv_cons, sv_cons1, sc_cons, sc_cons1, asB_bool, ifB_true, ifB_false, un_not, bin_lss, bin_leq, bin_gtr, bin_geq, bin_eql, bin_neq, bin_add, bin_sub, bin_mul, ok_int, ok_bool, ok_slice, ok_str, ok_ptr, ok_map, ok_func, ok_iface, ok_nil, List.all_cons, List.all_nil, Bool.and_true, Bool.true_and, seg, setSeg, List.drop_succ_cons, List.drop_zero, List.take_succ_cons, List.take_zero, List.cons_append, List.nil_append, List.append_nil, List.length_cons, List.length_nil, List.drop_nil, List.size_toArray, Nat.reduceAdd, Nat.reduceLeDiff, Nat.reduceBEq, Nat.zero_add, Nat.le_refl, decide_true, mkV, List.headD_cons, cellsV, w_fldV, w_ext, w_fldP, List.getElem?_toArray, List.getElem?_cons_zero, List.getElem?_cons_succ, beq_self_eq_true, selV, hd.dv.okcv]
  refine c_ref22_writes hm (hc.g g) hf.1 ht fun pv H4 hp g4 => ?_
  have g04 := g.trans g4
  have hz3 := g.size
  have hz13 : H1.size ≤ H3.size := by have := g2.size; omega
  have hz34 := g4.size
  have h4 := hm.2
  have hTok := allT_ok (cells := cells) (ticks := ticks) hok
  have hwp := wrP_eq _ (allT_pos (cells := cells) (ticks := ticks) hok)
  have hPok := plL_ok hTok
  have hPl := pl_bound hTok
  have hTl : (allT c.all cells ticks).length ≤ 10000 := by
    rw [allT_len]
    have h1 : 4 * c.all.length * ticks ≤ 16 * 512 := Nat.mul_le_mul (by omega) (by omega)
    omega
  have hfp : fitP c.all all (wrP (plL (allT c.all cells ticks))) := by rw [hwp]; exact hf.2.2
  have hwl : (wrP (plL (allT c.all cells ticks))).length = all.length := by
    rw [hwp]
    have h1 := wr_all (cells := cells) (ticks := ticks) hok
    have h2 := hf.2.1
    omega
  generalize plL (allT c.all cells ticks) = P at *
  have hinv := runP_inv hm hPok hfp
  have hp := hp.mono (A' := fun y => H3.size ≤ y ∧ y < H4.size) fun y hy hlt => ⟨hy, hlt⟩
  have hO : ∀ y, O y → H1.size ≤ y ∧ y < H3.size := fun y hy => hd.inO y (.inl hy)
  refine loop_up P.length (fun i st H' => (G H H' ∧ H4.size ≤ H'.size) ∧ Sl rPl H' (fun y => H3.size ≤ y ∧ y < H4.size) pv P ∧ ∃ F b vs, Wt H1.size H' O F v (runP c all (P.take i)).1 b vs (runP c all (P.take i)).2.2 ∧ (b = 0 ∨ H4.size < b) ∧ (∀ y, F y → y < H3.size ∨ H4.size ≤ y) ∧ st = [[vs], [.int .i64 ((runP c all (P.take i)).2.1 : Int)], [.int .i64 (i : Int)]])
    ⟨⟨g04, Nat.le_refl _⟩, hp, F, 0, _, ⟨hd.dv.g g4, Ow.nil _ _ _, fun y hy => by have := hd.inO y hy; have := g4.size; omega, .inl rfl⟩, .inl rfl, fun y hy => .inl (hd.inO y (.inr hy)).2, rfl⟩ ?_
  rintro i st H' K hi ⟨⟨g', hz4⟩, hp, F, b, vs, hw, hb4, hF4, rfl⟩ hK
  refine hp.len ?_
  try simp only [sv_cons, sv_cons1, sc_cons, sc_cons1, asB_bool, ifB_true, ifB_false, un_not, bin_lss, bin_leq, bin_gtr, bin_geq, bin_eql, bin_neq, bin_add, bin_sub, bin_mul, ok_int, ok_bool, ok_slice, ok_str, ok_ptr, ok_map, ok_func, ok_iface, ok_nil, List.all_cons, List.all_nil, Bool.and_true, Bool.true_and, seg, setSeg, List.drop_succ_cons, List.drop_zero, List.take_succ_cons, List.take_zero, List.cons_append, List.nil_append, List.append_nil, List.length_cons, List.length_nil, List.drop_nil, List.size_toArray, Nat.reduceAdd, Nat.reduceLeDiff, Nat.reduceBEq, Nat.zero_add, Nat.le_refl, decide_true, mkV, List.headD_cons, cellsV, w_fldV, w_ext, w_fldP, List.getElem?_toArray, List.getElem?_cons_zero, List.getElem?_cons_succ, beq_self_eq_true, selV]
  refine ifD_of (fun c1 => ?_) (fun c1 => ?_)
  · have hlt : i < P.length := by omega
    obtain ⟨i1, i2⟩ := hinv i (by omega)
    have hpi : P[i]? = some P[i] := List.getElem?_eq_getElem hlt
    obtain ⟨h0, x, hx, ho, hb5⟩ := hPok _ (List.getElem_mem hlt)
    have hget := wrP_get hpi
    have hrt := runP_take (c := c) (all := all) hpi
    have hrn := runP_n (c := c) (all := all) (P := P.take i)
    rw [← hrn] at hget
    generalize P[i] = p at *
    obtain ⟨pl, pb⟩ := p
    simp only at h0 hx hb5 hget
    obtain ⟨lev, rfl⟩ := Int.eq_ofNat_of_zero_le h0
    simp only [Int.toNat_natCast] at hx hget
    obtain ⟨_, _, _, _, o1, o2, o3, o4⟩ := id ho
    have hmb := many_bound o1 o2
    obtain ⟨e1, e2, e3, _⟩ := lvlOf_at i1 hx
    generalize hs : runP c all (P.take i) = s at *
    obtain ⟨d, n, sees⟩ := s
    simp only at hw i1 i2 e1 e2 e3 hget
    have hmid := may_mid i1
    have hz4' := g'.size
    have hbl := hw.ss.lt
    refine join_of (fun st H'' => (G H H'' ∧ H4.size ≤ H''.size) ∧ Sl rPl H'' (fun y => H3.size ≤ y ∧ y < H4.size) pv P ∧ ∃ F b vs, Wt H1.size H'' O F v (runP c all (P.take (i + 1))).1 b vs (runP c all (P.take (i + 1))).2.2 ∧ (b = 0 ∨ H4.size < b) ∧ (∀ y, F y → y < H3.size ∨ H4.size ≤ y) ∧ st = [[vs], [.int .i64 ((runP c all (P.take (i + 1))).2.1 : Int)]]) (fun K2 hK2 => ?_) ?_
    · rw [hrt] at hK2
      refine hp.at rfl hpi fun q cs hq hr => ?_
      obtain ⟨rfl, _⟩ := hr
      refine hq.fld1 (by simp) fun q1 hq1 => hq1.load rfl ?_
      try simp only [sv_cons, sv_cons1, sc_cons, sc_cons1, asB_bool, ifB_true, ifB_false, un_not, bin_lss, bin_leq, bin_gtr, bin_geq, bin_eql, bin_neq, bin_add, bin_sub, bin_mul, ok_int, ok_bool, ok_slice, ok_str, ok_ptr, ok_map, ok_func, ok_iface, ok_nil, List.all_cons, List.all_nil, Bool.and_true, Bool.true_and, seg, setSeg, List.drop_succ_cons, List.drop_zero, List.take_succ_cons, List.take_zero, List.cons_append, List.nil_append, List.append_nil, List.length_cons, List.length_nil, List.drop_nil, List.size_toArray, Nat.reduceAdd, Nat.reduceLeDiff, Nat.reduceBEq, Nat.zero_add, Nat.le_refl, decide_true, mkV, List.headD_cons, cellsV, w_fldV, w_ext, w_fldP, List.getElem?_toArray, List.getElem?_cons_zero, List.getElem?_cons_succ, beq_self_eq_true, selV]
      refine hp.at rfl hpi fun q cs hq hr => ?_
      obtain ⟨rfl, _⟩ := hr
      refine hq.fld1 (by simp) fun q1 hq1 => hq1.load rfl ?_
      try simp only [sv_cons, sv_cons1, sc_cons, sc_cons1, asB_bool, ifB_true, ifB_false, un_not, bin_lss, bin_leq, bin_gtr, bin_geq, bin_eql, bin_neq, bin_add, bin_sub, bin_mul, ok_int, ok_bool, ok_slice, ok_str, ok_ptr, ok_map, ok_func, ok_iface, ok_nil, List.all_cons, List.all_nil, Bool.and_true, Bool.true_and, seg, setSeg, List.drop_succ_cons, List.drop_zero, List.take_succ_cons, List.take_zero, List.cons_append, List.nil_append, List.append_nil, List.length_cons, List.length_nil, List.drop_nil, List.size_toArray, Nat.reduceAdd, Nat.reduceLeDiff, Nat.reduceBEq, Nat.zero_add, Nat.le_refl, decide_true, mkV, List.headD_cons, cellsV, w_fldV, w_ext, w_fldP, List.getElem?_toArray, List.getElem?_cons_zero, List.getElem?_cons_succ, beq_self_eq_true, selV]
      refine ifD_of (fun c2 => ?_) (fun c2 => ?_)
      · rw [show stepP all (d, n, sees) ((lev : Int), pb) = (d, n, sees ++ [⟨1, (lev : Int), -pb, bk d lev (-pb)⟩]) from by unfold stepP; rw [if_pos c2]] at hK2
        try simp only [sv_cons, sv_cons1, sc_cons, sc_cons1, asB_bool, ifB_true, ifB_false, un_not, bin_lss, bin_leq, bin_gtr, bin_geq, bin_eql, bin_neq, bin_add, bin_sub, bin_mul, ok_int, ok_bool, ok_slice, ok_str, ok_ptr, ok_map, ok_func, ok_iface, ok_nil, List.all_cons, List.all_nil, Bool.and_true, Bool.true_and, seg, setSeg, List.drop_succ_cons, List.drop_zero, List.take_succ_cons, List.take_zero, List.cons_append, List.nil_append, List.append_nil, List.length_cons, List.length_nil, List.drop_nil, List.size_toArray, Nat.reduceAdd, Nat.reduceLeDiff, Nat.reduceBEq, Nat.zero_add, Nat.le_refl, decide_true, mkV, List.headD_cons, cellsV, w_fldV, w_ext, w_fldP, List.getElem?_toArray, List.getElem?_cons_zero, List.getElem?_cons_succ, beq_self_eq_true, selV, un_neg]
        rw [wrap_i64 (x := -pb) (by unfold i64; omega)]
        refine bld_nil rU8 fun t H5 ht5 g5 s5 => ?_
        try simp only [sv_cons, sv_cons1, sc_cons, sc_cons1, asB_bool, ifB_true, ifB_false, un_not, bin_lss, bin_leq, bin_gtr, bin_geq, bin_eql, bin_neq, bin_add, bin_sub, bin_mul, ok_int, ok_bool, ok_slice, ok_str, ok_ptr, ok_map, ok_func, ok_iface, ok_nil, List.all_cons, List.all_nil, Bool.and_true, Bool.true_and, seg, setSeg, List.drop_succ_cons, List.drop_zero, List.take_succ_cons, List.take_zero, List.cons_append, List.nil_append, List.append_nil, List.length_cons, List.length_nil, List.drop_nil, List.size_toArray, Nat.reduceAdd, Nat.reduceLeDiff, Nat.reduceBEq, Nat.zero_add, Nat.le_refl, decide_true, mkV, List.headD_cons, cellsV, w_fldV, w_ext, w_fldP, List.getElem?_toArray, List.getElem?_cons_zero, List.getElem?_cons_succ, beq_self_eq_true, selV]
        obtain ⟨wl, hr1, hr2, _, _⟩ := (hw.g g5).dv.get e1
        refine hr1 _ _ fun r hr => hr.load rfl ?_
        try simp only [sv_cons, sv_cons1, sc_cons, sc_cons1, asB_bool, ifB_true, ifB_false, un_not, bin_lss, bin_leq, bin_gtr, bin_geq, bin_eql, bin_neq, bin_add, bin_sub, bin_mul, ok_int, ok_bool, ok_slice, ok_str, ok_ptr, ok_map, ok_func, ok_iface, ok_nil, List.all_cons, List.all_nil, Bool.and_true, Bool.true_and, seg, setSeg, List.drop_succ_cons, List.drop_zero, List.take_succ_cons, List.take_zero, List.cons_append, List.nil_append, List.append_nil, List.length_cons, List.length_nil, List.drop_nil, List.size_toArray, Nat.reduceAdd, Nat.reduceLeDiff, Nat.reduceBEq, Nat.zero_add, Nat.le_refl, decide_true, mkV, List.headD_cons, cellsV, w_fldV, w_ext, w_fldP, List.getElem?_toArray, List.getElem?_cons_zero, List.getElem?_cons_succ, beq_self_eq_true, selV]
        rw [wrap_i64 (x := -pb - 1) (by unfold i64; omega)]
        have hbk := bk_get (d := d) (level := (lev : Int)) (b := -pb) (by omega)
        have hcl := mid_bk hmid (level := (lev : Int)) (b := -pb)
        refine hr2.getSZ (by omega) hbk fun u hu => ?_
        refine clone_app ht5 hu rfl hcl fun w1 H6 c1' hw1 hf6 hc1 => ?_
        have g6 : G H' H6 := g5.then hf6 fun y hy => show y + 1 ≠ H'.size + 1 by omega
        have l6 := hw1.lt
        try simp only [sv_cons, sv_cons1, sc_cons, sc_cons1, asB_bool, ifB_true, ifB_false, un_not, bin_lss, bin_leq, bin_gtr, bin_geq, bin_eql, bin_neq, bin_add, bin_sub, bin_mul, ok_int, ok_bool, ok_slice, ok_str, ok_ptr, ok_map, ok_func, ok_iface, ok_nil, List.all_cons, List.all_nil, Bool.and_true, Bool.true_and, seg, setSeg, List.drop_succ_cons, List.drop_zero, List.take_succ_cons, List.take_zero, List.cons_append, List.nil_append, List.append_nil, List.length_cons, List.length_nil, List.drop_nil, List.size_toArray, Nat.reduceAdd, Nat.reduceLeDiff, Nat.reduceBEq, Nat.zero_add, Nat.le_refl, decide_true, mkV, List.headD_cons, cellsV, w_fldV, w_ext, w_fldP, List.getElem?_toArray, List.getElem?_cons_zero, List.getElem?_cons_succ, beq_self_eq_true, selV, hw1.okcv]
        refine hw.see2 (by omega) g6 hw1 (by omega) rfl rfl (by omega) (by omega) (fun t H X => X) (fun t H X g hX => hX) fun u3 H8 H7 b' hw8 g7 f8 hbb => ?_
        have g67 := g6.trans g7
        have hfr : Fr (fun y => y + 1 ≠ b) H' H8 := Fr.trans g67 f8 fun y _ hy => ⟨trivial, hy⟩
        have hb' : b' = 0 ∨ H4.size < b' := by have := g67.size; omega
        refine hK2 _ _ ⟨⟨(g'.trans g67).then f8 fun y hy => show y + 1 ≠ b by omega, by have := hfr.size; omega⟩, hp.up hfr fun y hy _ => ⟨show y + 1 ≠ b by omega, hy⟩, F, b', u3, hw8, hb', hF4, rfl⟩
      · rw [show stepP all (d, n, sees) ((lev : Int), pb) = (putB d lev pb (all.getD n []), n + 1, sees ++ [⟨2, (lev : Int), pb, all.getD n []⟩]) from by unfold stepP; rw [if_neg c2]] at hK2
        have hwn := hget (by omega)
        have hna : n < all.length := by have := (List.getElem?_eq_some_iff.1 hwn).1; omega
        obtain ⟨y0, k1, k2, _⟩ := hfp _ _ hwn
        rw [hx] at k1
        cases k1
        have hax : all[n]? = some all[n] := List.getElem?_eq_getElem hna
        have hgd : all.getD n [] = all[n] := by rw [List.getD_eq_getElem?_getD, hax]; rfl
        rw [hgd] at k2 hK2
        generalize all[n] = bs at *
        obtain ⟨wl, hr1, hr2, _, hput⟩ := hw.dv.get e1
        try simp only [sv_cons, sv_cons1, sc_cons, sc_cons1, asB_bool, ifB_true, ifB_false, un_not, bin_lss, bin_leq, bin_gtr, bin_geq, bin_eql, bin_neq, bin_add, bin_sub, bin_mul, ok_int, ok_bool, ok_slice, ok_str, ok_ptr, ok_map, ok_func, ok_iface, ok_nil, List.all_cons, List.all_nil, Bool.and_true, Bool.true_and, seg, setSeg, List.drop_succ_cons, List.drop_zero, List.take_succ_cons, List.take_zero, List.cons_append, List.nil_append, List.append_nil, List.length_cons, List.length_nil, List.drop_nil, List.size_toArray, Nat.reduceAdd, Nat.reduceLeDiff, Nat.reduceBEq, Nat.zero_add, Nat.le_refl, decide_true, mkV, List.headD_cons, cellsV, w_fldV, w_ext, w_fldP, List.getElem?_toArray, List.getElem?_cons_zero, List.getElem?_cons_succ, beq_self_eq_true, selV]
        refine hr1 _ _ fun r hr => hr.load rfl ?_
        try simp only [sv_cons, sv_cons1, sc_cons, sc_cons1, asB_bool, ifB_true, ifB_false, un_not, bin_lss, bin_leq, bin_gtr, bin_geq, bin_eql, bin_neq, bin_add, bin_sub, bin_mul, ok_int, ok_bool, ok_slice, ok_str, ok_ptr, ok_map, ok_func, ok_iface, ok_nil, List.all_cons, List.all_nil, Bool.and_true, Bool.true_and, seg, setSeg, List.drop_succ_cons, List.drop_zero, List.take_succ_cons, List.take_zero, List.cons_append, List.nil_append, List.append_nil, List.length_cons, List.length_nil, List.drop_nil, List.size_toArray, Nat.reduceAdd, Nat.reduceLeDiff, Nat.reduceBEq, Nat.zero_add, Nat.le_refl, decide_true, mkV, List.headD_cons, cellsV, w_fldV, w_ext, w_fldP, List.getElem?_toArray, List.getElem?_cons_zero, List.getElem?_cons_succ, beq_self_eq_true, selV]
        rw [wrap_i64 (x := pb - 1) (by unfold i64; omega)]
        obtain ⟨j, hj⟩ := Int.eq_ofNat_of_zero_le (show 0 ≤ pb - 1 by omega)
        rw [hj]
        refine (ha.g g').atS hax fun r2 u hr2' hu => hr2'.load rfl ?_
        refine bld_nil rU8 fun t H5 ht5 g5 s5 => ⟨(hr2'.g g5).load rfl rfl, (hr.g g5).load rfl rfl, ?_⟩
        refine clone_app ht5 (hu.g g5) rfl (by omega) fun w1 H6 c1' hw1 hf6 hc1 => ?_
        have g6 : G H' H6 := g5.then hf6 fun y hy => show y + 1 ≠ H'.size + 1 by omega
        have l6 := hw1.lt
        refine ⟨(hr.g g6).load rfl rfl, ?_⟩
        obtain ⟨hw6, hlf⟩ := hw.leaf (by omega) g6 hw1 (by omega)
        refine hput H6 _ g6.fr (fun y hy => .inl hy) hw6.dv.dis w1 bs j _ _ hlf (by omega) fun H7 hd7 hf7 hs7 => ?_
        have ep : d.set lev ((lvlOf d lev).set j bs) = putB d lev pb bs := by unfold putB; rw [Int.toNat_natCast, hj]; rfl
        rw [ep] at hd7
        have hw7 := hw6.put hd7 hf7 hs7
        have hfr7 : Fr (fun y => ¬ O y) H' H7 := Fr.trans g6 hf7 fun y _ hy => ⟨trivial, hy⟩
        have g7 : G H H7 := g'.then hfr7 fun y hy => fun h => by have := hO y h; omega
        have hs6 := g6.size
        refine bld_nil rU8 fun t2 H8 ht8 g8 s8 => ?_
        refine (ha.g (g7.trans g8)).atS hax fun r3 u3 hr3 hu3 => hr3.load rfl ?_
        try simp only [sv_cons, sv_cons1, sc_cons, sc_cons1, asB_bool, ifB_true, ifB_false, un_not, bin_lss, bin_leq, bin_gtr, bin_geq, bin_eql, bin_neq, bin_add, bin_sub, bin_mul, ok_int, ok_bool, ok_slice, ok_str, ok_ptr, ok_map, ok_func, ok_iface, ok_nil, List.all_cons, List.all_nil, Bool.and_true, Bool.true_and, seg, setSeg, List.drop_succ_cons, List.drop_zero, List.take_succ_cons, List.take_zero, List.cons_append, List.nil_append, List.append_nil, List.length_cons, List.length_nil, List.drop_nil, List.size_toArray, Nat.reduceAdd, Nat.reduceLeDiff, Nat.reduceBEq, Nat.zero_add, Nat.le_refl, decide_true, mkV, List.headD_cons, cellsV, w_fldV, w_ext, w_fldP, List.getElem?_toArray, List.getElem?_cons_zero, List.getElem?_cons_succ, beq_self_eq_true, selV]
        refine clone_app ht8 hu3 rfl (by omega) fun w2 H9 c2' hw2 hf9 hc2 => ?_
        have g9 : G H7 H9 := g8.then hf9 fun y hy => show y + 1 ≠ H7.size + 1 by omega
        have l9 := hw2.lt
        try simp only [sv_cons, sv_cons1, sc_cons, sc_cons1, asB_bool, ifB_true, ifB_false, un_not, bin_lss, bin_leq, bin_gtr, bin_geq, bin_eql, bin_neq, bin_add, bin_sub, bin_mul, ok_int, ok_bool, ok_slice, ok_str, ok_ptr, ok_map, ok_func, ok_iface, ok_nil, List.all_cons, List.all_nil, Bool.and_true, Bool.true_and, seg, setSeg, List.drop_succ_cons, List.drop_zero, List.take_succ_cons, List.take_zero, List.cons_append, List.nil_append, List.append_nil, List.length_cons, List.length_nil, List.drop_nil, List.size_toArray, Nat.reduceAdd, Nat.reduceLeDiff, Nat.reduceBEq, Nat.zero_add, Nat.le_refl, decide_true, mkV, List.headD_cons, cellsV, w_fldV, w_ext, w_fldP, List.getElem?_toArray, List.getElem?_cons_zero, List.getElem?_cons_succ, beq_self_eq_true, selV, hw2.okcv]
        refine hw7.see2 (by omega) g9 hw2 (by omega) rfl rfl (by omega) (by omega) (fun t H X => X) (fun t H X g hX => hX) fun u4 H11 H10 b' hw11 g10 f11 hbb => ?_
        have g79 := g9.trans g10
        have hfr : Fr (fun y => ¬ O y ∧ y + 1 ≠ b) H' H11 := (Fr.trans hfr7 g79 (C := fun y => ¬ O y) fun y _ hy => ⟨hy, trivial⟩).trans f11 fun y _ hy => hy
        have hz9 := g79.size
        have hb' : b' = 0 ∨ H4.size < b' := by omega
        try simp only [sv_cons, sv_cons1, sc_cons, sc_cons1, asB_bool, ifB_true, ifB_false, un_not, bin_lss, bin_leq, bin_gtr, bin_geq, bin_eql, bin_neq, bin_add, bin_sub, bin_mul, ok_int, ok_bool, ok_slice, ok_str, ok_ptr, ok_map, ok_func, ok_iface, ok_nil, List.all_cons, List.all_nil, Bool.and_true, Bool.true_and, seg, setSeg, List.drop_succ_cons, List.drop_zero, List.take_succ_cons, List.take_zero, List.cons_append, List.nil_append, List.append_nil, List.length_cons, List.length_nil, List.drop_nil, List.size_toArray, Nat.reduceAdd, Nat.reduceLeDiff, Nat.reduceBEq, Nat.zero_add, Nat.le_refl, decide_true, mkV, List.headD_cons, cellsV, w_fldV, w_ext, w_fldP, List.getElem?_toArray, List.getElem?_cons_zero, List.getElem?_cons_succ, beq_self_eq_true, selV]
        rw [wrap_i64 (x := (n : Int) + 1) (by unfold i64; omega)]
        refine hK2 _ _ ⟨⟨(g7.trans g79).then f11 fun y hy => show y + 1 ≠ b by omega, by have := hfr.size; omega⟩, hp.up hfr fun y hy _ => ⟨⟨fun h => by have := hO y h; omega, show y + 1 ≠ b by omega⟩, hy⟩, fun y => F y ∨ y + 1 = c1', b', u4, hw11, hb', fun y hy => ?_, by simp⟩
        rcases hy with hy | hy
        · exact hF4 y hy
        · right
          rcases hc1 with e | ⟨e, _⟩ <;> omega
    · rintro st H'' ⟨g'', hp'', F', b', vs', hw'', hb'', hF'', rfl⟩
      try simp only [sv_cons, sv_cons1, sc_cons, sc_cons1, asB_bool, ifB_true, ifB_false, un_not, bin_lss, bin_leq, bin_gtr, bin_geq, bin_eql, bin_neq, bin_add, bin_sub, bin_mul, ok_int, ok_bool, ok_slice, ok_str, ok_ptr, ok_map, ok_func, ok_iface, ok_nil, List.all_cons, List.all_nil, Bool.and_true, Bool.true_and, seg, setSeg, List.drop_succ_cons, List.drop_zero, List.take_succ_cons, List.take_zero, List.cons_append, List.nil_append, List.append_nil, List.length_cons, List.length_nil, List.drop_nil, List.size_toArray, Nat.reduceAdd, Nat.reduceLeDiff, Nat.reduceBEq, Nat.zero_add, Nat.le_refl, decide_true, mkV, List.headD_cons, cellsV, w_fldV, w_ext, w_fldP, List.getElem?_toArray, List.getElem?_cons_zero, List.getElem?_cons_succ, beq_self_eq_true, selV]
      rw [wrap_i64 (x := (i : Int) + 1) (by unfold i64; omega)]
      exact hK _ _ hlt ⟨g'', hp'', F', b', vs', hw'', hb'', hF'', by simp⟩
  · rw [List.take_of_length_le (by omega)] at hw
    exact hQ vs H' (hw.ss.sl (fun y hy _ => by have := hy.1; omega) fun k hk => by have := hw.fb; omega) g'

end Go.Proofs.Ytlalkgkicccjiaa
