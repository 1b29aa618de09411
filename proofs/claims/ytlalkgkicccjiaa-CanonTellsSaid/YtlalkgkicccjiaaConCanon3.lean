/- Contracts: counts of texts, and which texts may be. -/
import Derived.Test.YtlalkgkicccjiaaConCanon
import Derived.Test.YtlalkgkicccjiaaConRef08
namespace Go.Proofs.Ytlalkgkicccjiaa
open Go.Ab Go.Md
set_option linter.unusedVariables false
set_option linter.unusedSimpArgs false
set_option maxRecDepth 20000

variable {H : Heap} {Q : Value → Heap → Prop} {A B C : Nat → Prop}

theorem lvl_ok {v : Value} {l : List Lvl} (h : Sl rLvl H A v l) : ∀ x ∈ l, x.ok := by
  obtain ⟨_, _, css, _, k1, k2, _⟩ := h
  intro x hx
  obtain ⟨i, hi, rfl⟩ := List.mem_iff_getElem.1 hx
  exact (k2 i _ _ (List.getElem?_eq_getElem (by omega)) (List.getElem?_eq_getElem hi)).2

theorem isum_snoc : ∀ (l : List Int) (x : Int), (l ++ [x]).sum = l.sum + x
  | [], x => by simp
  | a :: l, x => by rw [List.cons_append, List.sum_cons, isum_snoc l x, List.sum_cons]; omega
theorem firstI_snoc (l : List Lvl) (x : Lvl) : firstI (l ++ [x]) = firstI l + (2 * many x.high - 1) := by unfold firstI; rw [List.map_append]; exact isum_snoc _ _
theorem tickI_snoc (l : List Lvl) (x : Lvl) : tickI (l ++ [x]) = tickI l + 2 * (x.high + 1) := by unfold tickI; rw [List.map_append]; exact isum_snoc _ _

/-! ### Numbers -/

theorem c_canon_number {x : Value} {bs : By} (hx : Sl rU8 H A x bs) (hl : 8 ≤ bs.length) (hQ : Q (.int .u64 (numB bs : Nat)) H) : callV Try.prog (fnV fn_canon_number) [x] H Q := by
  apply S_canon_number_of
  unfold S_canon_number
  refine loop_up 8 (fun i st H' => H' = H ∧ st = [[.int .u64 ((leN (bs.take i) : Nat) : Int)], [.int .i64 (i : Int)]]) ⟨rfl, by simp [leN]⟩ ?_
  rintro i st H' K hi ⟨rfl, rfl⟩ hK
  try simp only [sv_cons, sv_cons1, sc_cons, sc_cons1, asB_bool, ifB_true, ifB_false, un_not, bin_lss, bin_leq, bin_gtr, bin_geq, bin_eql, bin_neq, bin_add, bin_sub, bin_mul, ok_int, ok_bool, ok_slice, ok_str, ok_ptr, ok_map, ok_func, ok_iface, ok_nil, List.all_cons, List.all_nil, Bool.and_true, Bool.true_and, seg, setSeg, List.drop_succ_cons, List.drop_zero, List.take_succ_cons, List.take_zero, List.cons_append, List.nil_append, List.append_nil, List.length_cons, List.length_nil, List.drop_nil, List.size_toArray, Nat.reduceAdd, Nat.reduceLeDiff, Nat.reduceBEq, Nat.zero_add, Nat.le_refl, decide_true, mkV, List.headD_cons, cellsV, w_fldV, w_ext, w_fldP, List.getElem?_toArray, List.getElem?_cons_zero, List.getElem?_cons_succ, beq_self_eq_true, selV]
  refine ifD_of (fun c1 => ?_) (fun c1 => ?_)
  · have hi8 : i < 8 := by omega
    have hlt : i < bs.length := by omega
    have tk : bs.take (i + 1) = bs.take i ++ [bs[i]] := List.take_succ_eq_append_getElem hlt
    have hln : (bs.take i).length = i := by rw [List.length_take]; omega
    have hle := leN_lt (bs.take i)
    have hle2 := leN_lt (bs.take (i + 1))
    have hsn := leN_snoc (bs.take i) bs[i]
    rw [← tk, hln] at hsn
    rw [hln] at hle
    rw [List.length_take, Nat.min_eq_left (by omega)] at hle2
    have h8 : (256 : Nat) ^ (i + 1) ≤ 256 ^ 8 := Nat.pow_le_pow_right (by omega) (by omega)
    have hpw : (256 : Nat) ^ i = 2 ^ (8 * i) := by rw [Nat.pow_mul]
    refine hx.getB (List.getElem?_eq_getElem hlt) ?_
    have hbl := bs[i].toNat_lt
    generalize bs[i] = b at *
    try simp only [sv_cons, sv_cons1, sc_cons, sc_cons1, asB_bool, ifB_true, ifB_false, un_not, bin_lss, bin_leq, bin_gtr, bin_geq, bin_eql, bin_neq, bin_add, bin_sub, bin_mul, ok_int, ok_bool, ok_slice, ok_str, ok_ptr, ok_map, ok_func, ok_iface, ok_nil, List.all_cons, List.all_nil, Bool.and_true, Bool.true_and, seg, setSeg, List.drop_succ_cons, List.drop_zero, List.take_succ_cons, List.take_zero, List.cons_append, List.nil_append, List.append_nil, List.length_cons, List.length_nil, List.drop_nil, List.size_toArray, Nat.reduceAdd, Nat.reduceLeDiff, Nat.reduceBEq, Nat.zero_add, Nat.le_refl, decide_true, mkV, List.headD_cons, cellsV, w_fldV, w_ext, w_fldP, List.getElem?_toArray, List.getElem?_cons_zero, List.getElem?_cons_succ, beq_self_eq_true, selV]
    rw [cv_nat (by show b.toNat < 2 ^ 64; omega)]
    try simp only [sv_cons, sv_cons1, sc_cons, sc_cons1, asB_bool, ifB_true, ifB_false, un_not, bin_lss, bin_leq, bin_gtr, bin_geq, bin_eql, bin_neq, bin_add, bin_sub, bin_mul, ok_int, ok_bool, ok_slice, ok_str, ok_ptr, ok_map, ok_func, ok_iface, ok_nil, List.all_cons, List.all_nil, Bool.and_true, Bool.true_and, seg, setSeg, List.drop_succ_cons, List.drop_zero, List.take_succ_cons, List.take_zero, List.cons_append, List.nil_append, List.append_nil, List.length_cons, List.length_nil, List.drop_nil, List.size_toArray, Nat.reduceAdd, Nat.reduceLeDiff, Nat.reduceBEq, Nat.zero_add, Nat.le_refl, decide_true, mkV, List.headD_cons, cellsV, w_fldV, w_ext, w_fldP, List.getElem?_toArray, List.getElem?_cons_zero, List.getElem?_cons_succ, beq_self_eq_true, selV]
    rw [wrap_i64 (by unfold i64; omega), show (8 * (i : Int)) = ((8 * i : Nat) : Int) by omega, w_shlN (by show 8 * i < 64; omega) (by show b.toNat * 2 ^ (8 * i) < 2 ^ 64; rw [← hpw, Nat.mul_comm]; omega),
      w_or (by show _ < 2 ^ 64; omega) (by show b.toNat * 2 ^ (8 * i) < 2 ^ 64; rw [← hpw, Nat.mul_comm]; omega)]
    try simp only [sv_cons, sv_cons1, sc_cons, sc_cons1, asB_bool, ifB_true, ifB_false, un_not, bin_lss, bin_leq, bin_gtr, bin_geq, bin_eql, bin_neq, bin_add, bin_sub, bin_mul, ok_int, ok_bool, ok_slice, ok_str, ok_ptr, ok_map, ok_func, ok_iface, ok_nil, List.all_cons, List.all_nil, Bool.and_true, Bool.true_and, seg, setSeg, List.drop_succ_cons, List.drop_zero, List.take_succ_cons, List.take_zero, List.cons_append, List.nil_append, List.append_nil, List.length_cons, List.length_nil, List.drop_nil, List.size_toArray, Nat.reduceAdd, Nat.reduceLeDiff, Nat.reduceBEq, Nat.zero_add, Nat.le_refl, decide_true, mkV, List.headD_cons, cellsV, w_fldV, w_ext, w_fldP, List.getElem?_toArray, List.getElem?_cons_zero, List.getElem?_cons_succ, beq_self_eq_true, selV]
    rw [wrap_i64 (by unfold i64; omega)]
    refine hK _ _ hi8 ⟨rfl, ?_⟩
    have e : leN (bs.take i) ||| b.toNat * 2 ^ (8 * i) = leN (bs.take (i + 1)) := by
      rw [hsn, Nat.or_comm, Nat.mul_comm, ← Nat.two_pow_add_eq_or_of_lt (by rw [← hpw]; exact hle), hpw, Nat.add_comm]
    rw [e]
    simp
  · have : i = 8 := by omega
    subst this
    exact hQ

/-! ### Counts -/

theorem asD_of' {p : Prop} [Decidable p] {k : Bool → Prop} (ht : p → k true) (hf : ¬ p → k false) : asB (.bool (decide p)) k := by
  by_cases h : p
  · rw [decide_eq_true h]; exact ht h
  · rw [decide_eq_false h]; exact hf h

theorem c_conf_Seals {c : Cfg} (hQ : ∀ H', G H H' → Q (tup3 (.int .i64 (firstI c.levels)) (.int .i64 (tickI c.levels)) (.int .i64 c.err)) H') : callV Try.prog (fnV fn_conf_Seals) [.agg (cCfg c).toArray] H Q := by
  apply S_conf_Seals_of
  unfold S_conf_Seals
  refine newT_of fun H1 g1 s1 => c_conf_Levels fun v H2 hv g2 => ?_
  have hok := lvl_ok hv
  have hlen : c.levels.length ≤ 64 := by unfold Cfg.levels; split; exact c.all_len; simp
  try simp only [sv_cons, sv_cons1, sc_cons, sc_cons1, asB_bool, ifB_true, ifB_false, un_not, bin_lss, bin_leq, bin_gtr, bin_geq, bin_eql, bin_neq, bin_add, bin_sub, bin_mul, ok_int, ok_bool, ok_slice, ok_str, ok_ptr, ok_map, ok_func, ok_iface, ok_nil, List.all_cons, List.all_nil, Bool.and_true, Bool.true_and, seg, setSeg, List.drop_succ_cons, List.drop_zero, List.take_succ_cons, List.take_zero, List.cons_append, List.nil_append, List.append_nil, List.length_cons, List.length_nil, List.drop_nil, List.size_toArray, Nat.reduceAdd, Nat.reduceLeDiff, Nat.reduceBEq, Nat.zero_add, Nat.le_refl, decide_true, mkV, List.headD_cons, cellsV, w_fldV, w_ext, w_fldP, List.getElem?_toArray, List.getElem?_cons_zero, List.getElem?_cons_succ, beq_self_eq_true, selV]
  refine hv.len ?_
  refine loop_up c.levels.length (fun i st H' => G H2 H' ∧ st = [[.int .i64 (firstI (c.levels.take i))], [.int .i64 (tickI (c.levels.take i))], [.int .i64 (i : Int)]]) ⟨G.fr (Fr.refl _ _), by simp [firstI, tickI]⟩ ?_
  rintro i st H' K hi ⟨g, rfl⟩ hK
  try simp only [sv_cons, sv_cons1, sc_cons, sc_cons1, asB_bool, ifB_true, ifB_false, un_not, bin_lss, bin_leq, bin_gtr, bin_geq, bin_eql, bin_neq, bin_add, bin_sub, bin_mul, ok_int, ok_bool, ok_slice, ok_str, ok_ptr, ok_map, ok_func, ok_iface, ok_nil, List.all_cons, List.all_nil, Bool.and_true, Bool.true_and, seg, setSeg, List.drop_succ_cons, List.drop_zero, List.take_succ_cons, List.take_zero, List.cons_append, List.nil_append, List.append_nil, List.length_cons, List.length_nil, List.drop_nil, List.size_toArray, Nat.reduceAdd, Nat.reduceLeDiff, Nat.reduceBEq, Nat.zero_add, Nat.le_refl, decide_true, mkV, List.headD_cons, cellsV, w_fldV, w_ext, w_fldP, List.getElem?_toArray, List.getElem?_cons_zero, List.getElem?_cons_succ, beq_self_eq_true, selV]
  refine ifD_of (fun c1 => ?_) (fun c1 => ?_)
  · have hlt : i < c.levels.length := by omega
    have hx : c.levels[i]? = some c.levels[i] := List.getElem?_eq_getElem hlt
    have ho := hok _ (List.getElem_mem hlt)
    have tk : c.levels.take (i + 1) = c.levels.take i ++ [c.levels[i]] := List.take_succ_eq_append_getElem hlt
    have hb := first_bound (l := c.levels.take i) fun x hx => hok x (List.mem_of_mem_take hx)
    have htl : (c.levels.take i).length = i := by rw [List.length_take]; omega
    generalize c.levels[i] = x at *
    obtain ⟨_, _, _, _, o1, o2, _, _⟩ := id ho
    have hm := many_bound o1 o2
    refine (hv.g g).get rfl hx fun cs hr => ?_
    obtain ⟨rfl, _⟩ := hr
    try simp only [sv_cons, sv_cons1, sc_cons, sc_cons1, asB_bool, ifB_true, ifB_false, un_not, bin_lss, bin_leq, bin_gtr, bin_geq, bin_eql, bin_neq, bin_add, bin_sub, bin_mul, ok_int, ok_bool, ok_slice, ok_str, ok_ptr, ok_map, ok_func, ok_iface, ok_nil, List.all_cons, List.all_nil, Bool.and_true, Bool.true_and, seg, setSeg, List.drop_succ_cons, List.drop_zero, List.take_succ_cons, List.take_zero, List.cons_append, List.nil_append, List.append_nil, List.length_cons, List.length_nil, List.drop_nil, List.size_toArray, Nat.reduceAdd, Nat.reduceLeDiff, Nat.reduceBEq, Nat.zero_add, Nat.le_refl, decide_true, mkV, List.headD_cons, cellsV, w_fldV, w_ext, w_fldP, List.getElem?_toArray, List.getElem?_cons_zero, List.getElem?_cons_succ, beq_self_eq_true, selV]
    refine newT_of fun H3 g3 s3 => ?_
    try simp only [sv_cons, sv_cons1, sc_cons, sc_cons1, asB_bool, ifB_true, ifB_false, un_not, bin_lss, bin_leq, bin_gtr, bin_geq, bin_eql, bin_neq, bin_add, bin_sub, bin_mul, ok_int, ok_bool, ok_slice, ok_str, ok_ptr, ok_map, ok_func, ok_iface, ok_nil, List.all_cons, List.all_nil, Bool.and_true, Bool.true_and, seg, setSeg, List.drop_succ_cons, List.drop_zero, List.take_succ_cons, List.take_zero, List.cons_append, List.nil_append, List.append_nil, List.length_cons, List.length_nil, List.drop_nil, List.size_toArray, Nat.reduceAdd, Nat.reduceLeDiff, Nat.reduceBEq, Nat.zero_add, Nat.le_refl, decide_true, mkV, List.headD_cons, cellsV, w_fldV, w_ext, w_fldP, List.getElem?_toArray, List.getElem?_cons_zero, List.getElem?_cons_succ, beq_self_eq_true, selV]
    refine c_geo_Buckets ?_
    unfold bucketsV
    rw [if_pos (highE_ok.2 ⟨o1, o2⟩)]
    try simp only [sv_cons, sv_cons1, sc_cons, sc_cons1, asB_bool, ifB_true, ifB_false, un_not, bin_lss, bin_leq, bin_gtr, bin_geq, bin_eql, bin_neq, bin_add, bin_sub, bin_mul, ok_int, ok_bool, ok_slice, ok_str, ok_ptr, ok_map, ok_func, ok_iface, ok_nil, List.all_cons, List.all_nil, Bool.and_true, Bool.true_and, seg, setSeg, List.drop_succ_cons, List.drop_zero, List.take_succ_cons, List.take_zero, List.cons_append, List.nil_append, List.append_nil, List.length_cons, List.length_nil, List.drop_nil, List.size_toArray, Nat.reduceAdd, Nat.reduceLeDiff, Nat.reduceBEq, Nat.zero_add, Nat.le_refl, decide_true, mkV, List.headD_cons, cellsV, w_fldV, w_ext, w_fldP, List.getElem?_toArray, List.getElem?_cons_zero, List.getElem?_cons_succ, beq_self_eq_true, selV]
    rw [wrap_i64 (x := firstI (c.levels.take i) + (2 * many x.high - 1)) (by unfold i64; omega), wrap_i64 (x := x.high + 1) (by unfold i64; omega), wrap_i64 (x := 2 * (x.high + 1)) (by unfold i64; omega),
      wrap_i64 (x := tickI (c.levels.take i) + 2 * (x.high + 1)) (by unfold i64; omega), wrap_i64 (x := (i : Int) + 1) (by unfold i64; omega)]
    exact hK _ _ hlt ⟨g.trans g3, by rw [tk, firstI_snoc, tickI_snoc]; simp⟩
  · rw [List.take_of_length_le (by omega)]
    exact hQ _ ((g1.trans g2).trans g)

theorem c_canon_Count {c : Cfg} {ticks : Int} (ht : i64 ticks) (hQ : ∀ H', G H H' → Q (tup2 (.int .i64 (cntV c ticks)) (.int .i64 (cntE c ticks))) H') : callV Try.prog (fnV fn_canon_Count) [.agg (cCfg c).toArray, .int .i64 ticks] H Q := by
  apply S_canon_Count_of
  unfold S_canon_Count
  refine newT_of fun H1 g1 s1 => c_conf_Seals fun H2 g2 => ?_
  have g := g1.trans g2
  have hb : c.may → 0 ≤ firstI c.all ∧ firstI c.all ≤ 1000 ∧ 0 ≤ tickI c.all ∧ tickI c.all ≤ 1000 := fun h => by
    have := first_bound (Cfg.all_ok h.1)
    have := h.2
    omega
  try simp only [sv_cons, sv_cons1, sc_cons, sc_cons1, asB_bool, ifB_true, ifB_false, un_not, bin_lss, bin_leq, bin_gtr, bin_geq, bin_eql, bin_neq, bin_add, bin_sub, bin_mul, ok_int, ok_bool, ok_slice, ok_str, ok_ptr, ok_map, ok_func, ok_iface, ok_nil, List.all_cons, List.all_nil, Bool.and_true, Bool.true_and, seg, setSeg, List.drop_succ_cons, List.drop_zero, List.take_succ_cons, List.take_zero, List.cons_append, List.nil_append, List.append_nil, List.length_cons, List.length_nil, List.drop_nil, List.size_toArray, Nat.reduceAdd, Nat.reduceLeDiff, Nat.reduceBEq, Nat.zero_add, Nat.le_refl, decide_true, mkV, List.headD_cons, cellsV, w_fldV, w_ext, w_fldP, List.getElem?_toArray, List.getElem?_cons_zero, List.getElem?_cons_succ, beq_self_eq_true, selV]
  unfold Cfg.err Cfg.levels
  by_cases hm : c.may
  · rw [if_pos hm, if_pos hm]
    obtain ⟨b1, b2, b3, b4⟩ := hb hm
    refine asD_of' (fun c1 => absurd rfl c1) (fun _ => ?_)
    rw [ifB_false]
    refine join_of (fun s H' => H' = H2 ∧ s = [[.bool (decide (ticks < 0 ∨ ticks > 512))]]) (fun K hK => ?_) ?_
    · try simp only [sv_cons, sv_cons1, sc_cons, sc_cons1, asB_bool, ifB_true, ifB_false, un_not, bin_lss, bin_leq, bin_gtr, bin_geq, bin_eql, bin_neq, bin_add, bin_sub, bin_mul, ok_int, ok_bool, ok_slice, ok_str, ok_ptr, ok_map, ok_func, ok_iface, ok_nil, List.all_cons, List.all_nil, Bool.and_true, Bool.true_and, seg, setSeg, List.drop_succ_cons, List.drop_zero, List.take_succ_cons, List.take_zero, List.cons_append, List.nil_append, List.append_nil, List.length_cons, List.length_nil, List.drop_nil, List.size_toArray, Nat.reduceAdd, Nat.reduceLeDiff, Nat.reduceBEq, Nat.zero_add, Nat.le_refl, decide_true, mkV, List.headD_cons, cellsV, w_fldV, w_ext, w_fldP, List.getElem?_toArray, List.getElem?_cons_zero, List.getElem?_cons_succ, beq_self_eq_true, selV]
      refine ifD_of (fun c1 => hK _ _ ⟨rfl, by rw [decide_eq_true (show ticks < 0 ∨ ticks > 512 from .inl c1)]⟩) (fun c1 => hK _ _ ⟨rfl, jb_d (by omega)⟩)
    · rintro s H' ⟨rfl, rfl⟩
      try simp only [sv_cons, sv_cons1, sc_cons, sc_cons1, asB_bool, ifB_true, ifB_false, un_not, bin_lss, bin_leq, bin_gtr, bin_geq, bin_eql, bin_neq, bin_add, bin_sub, bin_mul, ok_int, ok_bool, ok_slice, ok_str, ok_ptr, ok_map, ok_func, ok_iface, ok_nil, List.all_cons, List.all_nil, Bool.and_true, Bool.true_and, seg, setSeg, List.drop_succ_cons, List.drop_zero, List.take_succ_cons, List.take_zero, List.cons_append, List.nil_append, List.append_nil, List.length_cons, List.length_nil, List.drop_nil, List.size_toArray, Nat.reduceAdd, Nat.reduceLeDiff, Nat.reduceBEq, Nat.zero_add, Nat.le_refl, decide_true, mkV, List.headD_cons, cellsV, w_fldV, w_ext, w_fldP, List.getElem?_toArray, List.getElem?_cons_zero, List.getElem?_cons_succ, beq_self_eq_true, selV]
      refine ifD_of (fun c1 => ?_) (fun c1 => ?_)
      · have e : cntE c ticks = 4 := by unfold cntE; rw [if_pos hm, if_pos c1]
        have := hQ H' g
        unfold cntV at this
        rw [e, if_neg (by omega)] at this
        exact this
      · have e : cntE c ticks = 0 := by unfold cntE; rw [if_pos hm, if_neg c1]
        have := hQ H' g
        unfold cntV at this
        rw [e, if_pos rfl] at this
        have h1 : 0 ≤ tickI c.all * ticks := Int.mul_nonneg b3 (by omega)
        have h2 : tickI c.all * ticks ≤ 1000 * 512 := Int.mul_le_mul b4 (by omega) (by omega) (by omega)
        rw [wrap_i64 (x := tickI c.all * ticks) (by unfold i64; omega), wrap_i64 (by unfold i64; omega)]
        exact this
  · rw [if_neg hm, if_neg hm]
    refine asD_of' (fun _ => ?_) (fun c1 => absurd (by omega) c1)
    rw [ifB_true]
    have e : cntE c ticks = 8 := by unfold cntE; rw [if_neg hm]
    have := hQ H2 g
    unfold cntV at this
    rw [e, if_neg (by omega)] at this
    exact this

/-! ### A loop over turns -/

theorem c_canon_turns {v w : Value} {l : List Lvl} {cells : List (List Int)} {ticks m : Nat} (hl : Sl rLvl H (fun y => y < m) v l) (hc : Sl (rSl (rI .u32)) H (fun y => y < m) w cells) (hm : m ≤ H.size)
    (hQ : ∀ H', TuS H.size (H.size + 2) (H.size + 1) m v w l cells ticks H' → G H H' → H'.size = H.size + 3 →
      Q (.func (.func fn_canon_turns_1) #[] #[.pointer (some ⟨H.size, 0, none⟩), .pointer (some ⟨H.size + 2, 0, none⟩), .pointer (some ⟨H.size + 1, 0, none⟩)]) H') :
    callV Try.prog (fnV fn_canon_turns) [v, w, .int .i64 (ticks : Int)] H Q := by
  apply S_canon_turns_of
  unfold S_canon_turns
  rw [hl.okcv, hc.okcv, ifB_true]
  refine newC_bx fun H1 h3 g1 s1 => ?_
  rw [ifB_true]
  refine newC_bx fun H2 h4 g2 s2 => ?_
  try simp only [sv_cons, sv_cons1, sc_cons, sc_cons1, asB_bool, ifB_true, ifB_false, un_not, bin_lss, bin_leq, bin_gtr, bin_geq, bin_eql, bin_neq, bin_add, bin_sub, bin_mul, ok_int, ok_bool, ok_slice, ok_str, ok_ptr, ok_map, ok_func, ok_iface, ok_nil, List.all_cons, List.all_nil, Bool.and_true, Bool.true_and, seg, setSeg, List.drop_succ_cons, List.drop_zero, List.take_succ_cons, List.take_zero, List.cons_append, List.nil_append, List.append_nil, List.length_cons, List.length_nil, List.drop_nil, List.size_toArray, Nat.reduceAdd, Nat.reduceLeDiff, Nat.reduceBEq, Nat.zero_add, Nat.le_refl, decide_true, mkV, List.headD_cons, cellsV, w_fldV, w_ext, w_fldP, List.getElem?_toArray, List.getElem?_cons_zero, List.getElem?_cons_succ, beq_self_eq_true, selV]
  refine newC_bx fun H3 h5 g3 s3 => ?_
  have g := (g1.trans g2).trans g3
  rw [s2, s1] at h5 ⊢
  rw [s1] at h4
  exact hQ H3 ⟨by omega, (h3.g g2).g g3, hl.g g, h5, h4.g g3, hc.g g⟩ g (by omega)

theorem c_turns_range {v w : Value} {l : List Lvl} {cells : List (List Int)} {ticks m : Nat} {Round : List Value → Heap → (Option (Option Nat) → Heap → Prop) → Prop} {kn : Heap → Prop} {ks : List (Option Nat × (Heap → Prop))}
    (hl : Sl rLvl H (fun y => y < m) v l) (hc : Sl (rSl (rI .u32)) H (fun y => y < m) w cells) (hm : m ≤ H.size) (hn : l.length ≤ 1000) (ht : ticks ≤ 1000) (hco : CellsOk l cells ticks)
    (J : Nat → (Nat → Prop) → Heap → Prop) (E : (Nat → Prop) → Heap → Prop) (W0 : Nat → Prop) (hw0 : ∀ y, W0 y → m ≤ y ∧ y < H.size)
    (hG : ∀ i W H1 H2, J i W H1 → G H1 H2 → J i W H2) (hE : ∀ W H1 H2, E W H1 → G H1 H2 → E W H2) (h0 : ∀ H1, G H H1 → J 0 W0 H1) (hw : ∀ i W H1, J i W H1 → ∀ y, W y → y < H1.size)
    (hr : ∀ i W H1 t u (K : Option (Option Nat) → Heap → Prop), (allT l cells ticks)[i]? = some t → J i W H1 → Sl (rI .i64) H1 (fun y => H.size ≤ y) u t.at' → (∀ y, W y → W0 y ∨ H.size ≤ y) →
      (∀ W2 H2, J (i + 1) W2 H2 → Ext W H1 W2 H2 → K none H2) → (∀ W2 H2, E W2 H2 → Ext W H1 W2 H2 → K (some none) H2) → Round [.agg #[.int .u8 t.kind, .int .i64 (t.level : Int), .int .i64 0, .slice none 0 0], u] H1 K)
    (hkn : ∀ W H1, J (allT l cells ticks).length W H1 → kn H1) (hex : ∀ W H1, E W H1 → ∃ p ∈ ks, p.1 = none ∧ p.2 H1) :
    callV Try.prog (fnV fn_canon_turns) [v, w, .int .i64 (ticks : Int)] H fun t H => RangePT Try.prog t H Round kn ks := by
  refine c_canon_turns hl hc hm fun H2 hT g2 s2 => ?_
  have tfr : ∀ {H3 H4 : Heap} {X : Nat → Prop}, TuS H.size (H.size + 2) (H.size + 1) m v w l cells ticks H3 → Fr X H3 H4 → (∀ y, y < H.size + 3 → ¬ (m ≤ y ∧ y < H.size) → X y) → TuS H.size (H.size + 2) (H.size + 1) m v w l cells ticks H4 := by
    rintro H3 H4 X ⟨t0, t1, t2, t3, t4, t5⟩ f hX
    have := f.size
    exact ⟨by omega, t1.up f (hX _ (by omega) (by omega)), t2.up f fun y hy _ => ⟨hX y (by omega) (by omega), hy⟩, t3.up f (hX _ (by omega) (by omega)), t4.up f (hX _ (by omega) (by omega)), t5.up f fun y hy _ => ⟨hX y (by omega) (by omega), hy⟩⟩
  have text : ∀ {W W' : Nat → Prop} {H3 H4 : Heap}, TuS H.size (H.size + 2) (H.size + 1) m v w l cells ticks H3 → (∀ y, W y → W0 y ∨ H2.size + 2 ≤ y) → Ext W H3 W' H4 → TuS H.size (H.size + 2) (H.size + 1) m v w l cells ticks H4 := by
    intro W W' H3 H4 h hW e
    refine tfr (X := fun y => ¬ W y) h ⟨e.1, fun y hy hn => e.2.1 y hy hn⟩ fun y hy hn hw => ?_
    rcases hW y hw with h | h
    · exact hn (hw0 y h)
    · omega
  refine range_iterW (c_canon_turns_1 (m := m) (v := v) (w := w) hn ht hco) trivial (fun i W H1 => J i W H1 ∧ TuS H.size (H.size + 2) (H.size + 1) m v w l cells ticks H1 ∧ (∀ y, W y → W0 y ∨ H2.size + 2 ≤ y) ∧ H2.size + 2 ≤ H1.size)
    (fun c W H1 => c = none ∧ E W H1 ∧ TuS H.size (H.size + 2) (H.size + 1) m v w l cells ticks H1) W0 ?_ ?_ ?_ ?_ (fun i W H1 h => h.2.2.2) (fun i W H1 h => hw i W H1 h.1) ?_ ?_ (fun W H1 h => hkn W H1 h.1) ?_
  · rintro i W H1 H3 ⟨j1, j2, j3, j4⟩ g
    exact ⟨hG _ _ _ _ j1 g, tfr j2 g fun _ _ _ => trivial, j3, by have := g.size; omega⟩
  · rintro c W H1 H3 ⟨j1, j2, j3⟩ g
    exact ⟨j1, hE _ _ _ j2 g, tfr j3 g fun _ _ _ => trivial⟩
  · rintro i W H1 H3 ⟨j1, j2, j3, j4⟩ f
    exact tfr j2 f fun y hy _ => by show y ≠ H2.size + 1; omega
  · rintro c W H1 H3 ⟨j1, j2, j3⟩ f
    exact tfr j3 f fun y hy _ => by show y ≠ H2.size + 1; omega
  · intro H1 g1 s1
    exact ⟨h0 H1 (g2.trans g1), tfr hT g1 fun _ _ _ => trivial, fun y hy => .inl hy, by omega⟩
  · rintro i W H1 H3 a K hi ⟨j1, j2, j3, j4⟩ ⟨t, u, hti, rfl, hu⟩ f sz htb hK hE'
    have hlt := (Array.getElem?_eq_some_iff.1 htb).1
    have nr : ¬ W (H2.size + 1) := fun h => by
      rcases j3 _ h with h | h
      · have := hw0 _ h; omega
      · omega
    refine hr i W H3 t u K hti j1 (hu.up f fun y hy _ => ⟨show y ≠ H2.size + 1 by omega, by omega⟩) (fun y hy => (j3 y hy).imp id fun h => by omega) (fun W4 H4 hJ4 he4 => ?_) (fun W4 H4 hE4 he4 => ?_)
    · refine hK W4 H4 ⟨hJ4, text j2 j3 he4, fun y hy => (he4.2.2 y hy).elim (j3 y) fun h => .inr (by omega), by have := he4.1; omega⟩ he4 (by rw [he4.2.1 _ hlt nr]; exact htb)
    · exact hE' none W4 H4 ⟨rfl, hE4, text j2 j3 he4⟩ he4 (by rw [he4.2.1 _ hlt nr]; exact htb)
  · rintro c W H1 ⟨rfl, j2, _⟩
    exact hex W H1 j2

theorem wrL_at {T : List Turn} {i j : Nat} {t : Turn} (h : T[i]? = some t) (hk : t.kind ≠ 1) (hj : j < t.at'.length) : (wrL T)[(wrL (T.take i)).length + j]? = some t.level := by
  have hlt := (List.getElem?_eq_some_iff.1 h).1
  have e : T = T.take (i + 1) ++ T.drop (i + 1) := (List.take_append_drop _ _).symm
  have e2 : wrL T = (wrL (T.take i) ++ wrT t) ++ wrL (T.drop (i + 1)) := by
    conv => lhs; rw [e, wrL_app, wrL_take T h]
  have hl : (wrT t).length = t.at'.length := by unfold wrT; rw [if_neg hk, List.length_map]
  rw [e2, List.getElem?_append_left (by rw [List.length_append]; omega), List.getElem?_append_right (by omega), Nat.add_sub_cancel_left]
  unfold wrT
  rw [if_neg hk, List.getElem?_map, List.getElem?_eq_getElem hj]; rfl
theorem wrL_len {T : List Turn} {i : Nat} {t : Turn} (h : T[i]? = some t) (hk : t.kind ≠ 1) : (wrL (T.take (i + 1))).length = (wrL (T.take i)).length + t.at'.length := by
  rw [wrL_take T h, List.length_append]
  unfold wrT
  rw [if_neg hk, List.length_map]
theorem wrL_len1 {T : List Turn} {i : Nat} {t : Turn} (h : T[i]? = some t) (hk : t.kind = 1) : (wrL (T.take (i + 1))).length = (wrL (T.take i)).length := by
  rw [wrL_take T h, List.length_append]
  unfold wrT
  rw [if_pos hk]; rfl

theorem c_Contains_u32 {a fv : Value} {xs : List (List Int)} {p : List Int → Bool} (ha : Sl (rSl (rI .u32)) H A a xs) (hl : xs.length ≤ 1000000) (hf : ∀ u x (K : Value → Heap → Prop), Sl (rI .u32) H A u x → K (.bool (p x)) H → callV Try.prog fv [u] H K)
    (hQ : Q (.bool (xs.any p)) H) : callV Try.prog (fnV fn_slices_ContainsFunc_uint32_uint32) [a, fv] H Q := by
  apply S_slices_ContainsFunc_uint32_uint32_of
  unfold S_slices_ContainsFunc_uint32_uint32
  apply S_slices_IndexFunc_uint32_uint32_of
  unfold S_slices_IndexFunc_uint32_uint32
  refine ha.len ?_
  refine loop_up xs.length (fun i s H' => s = [[.int .i64 (i : Int)]] ∧ H' = H ∧ ∀ x ∈ xs.take i, p x = false) ⟨rfl, rfl, by simp⟩ ?_
  rintro i s H' K hi ⟨rfl, rfl, ht⟩ hK
  try simp only [sv_cons, sv_cons1, sc_cons, sc_cons1, asB_bool, ifB_true, ifB_false, un_not, bin_lss, bin_leq, bin_gtr, bin_geq, bin_eql, bin_neq, bin_add, bin_sub, bin_mul, ok_int, ok_bool, ok_slice, ok_str, ok_ptr, ok_map, ok_func, ok_iface, ok_nil, List.all_cons, List.all_nil, Bool.and_true, Bool.true_and, seg, setSeg, List.drop_succ_cons, List.drop_zero, List.take_succ_cons, List.take_zero, List.cons_append, List.nil_append, List.append_nil, List.length_cons, List.length_nil, List.drop_nil, List.size_toArray, Nat.reduceAdd, Nat.reduceLeDiff, Nat.reduceBEq, Nat.zero_add, Nat.le_refl, decide_true, mkV, List.headD_cons, cellsV, w_fldV, w_ext, w_fldP, List.getElem?_toArray, List.getElem?_cons_zero, List.getElem?_cons_succ, beq_self_eq_true, selV]
  refine ifD_of (fun hlt => ?_) (fun hge => ?_)
  · have hlt : i < xs.length := by omega
    refine ha.getS (List.getElem?_eq_getElem hlt) fun u hu => hf u _ _ hu ?_
    try simp only [sv_cons, sv_cons1, sc_cons, sc_cons1, asB_bool, ifB_true, ifB_false, un_not, bin_lss, bin_leq, bin_gtr, bin_geq, bin_eql, bin_neq, bin_add, bin_sub, bin_mul, ok_int, ok_bool, ok_slice, ok_str, ok_ptr, ok_map, ok_func, ok_iface, ok_nil, List.all_cons, List.all_nil, Bool.and_true, Bool.true_and, seg, setSeg, List.drop_succ_cons, List.drop_zero, List.take_succ_cons, List.take_zero, List.cons_append, List.nil_append, List.append_nil, List.length_cons, List.length_nil, List.drop_nil, List.size_toArray, Nat.reduceAdd, Nat.reduceLeDiff, Nat.reduceBEq, Nat.zero_add, Nat.le_refl, decide_true, mkV, List.headD_cons, cellsV, w_fldV, w_ext, w_fldP, List.getElem?_toArray, List.getElem?_cons_zero, List.getElem?_cons_succ, beq_self_eq_true, selV]
    cases hp : p xs[i] with
    | true =>
      rw [List.any_eq_true.2 ⟨xs[i], List.getElem_mem hlt, hp⟩] at hQ
      try simp only [sv_cons, sv_cons1, sc_cons, sc_cons1, asB_bool, ifB_true, ifB_false, un_not, bin_lss, bin_leq, bin_gtr, bin_geq, bin_eql, bin_neq, bin_add, bin_sub, bin_mul, ok_int, ok_bool, ok_slice, ok_str, ok_ptr, ok_map, ok_func, ok_iface, ok_nil, List.all_cons, List.all_nil, Bool.and_true, Bool.true_and, seg, setSeg, List.drop_succ_cons, List.drop_zero, List.take_succ_cons, List.take_zero, List.cons_append, List.nil_append, List.append_nil, List.length_cons, List.length_nil, List.drop_nil, List.size_toArray, Nat.reduceAdd, Nat.reduceLeDiff, Nat.reduceBEq, Nat.zero_add, Nat.le_refl, decide_true, mkV, List.headD_cons, cellsV, w_fldV, w_ext, w_fldP, List.getElem?_toArray, List.getElem?_cons_zero, List.getElem?_cons_succ, beq_self_eq_true, selV]
      rw [decide_eq_true (by omega)]; exact hQ
    | false =>
      try simp only [sv_cons, sv_cons1, sc_cons, sc_cons1, asB_bool, ifB_true, ifB_false, un_not, bin_lss, bin_leq, bin_gtr, bin_geq, bin_eql, bin_neq, bin_add, bin_sub, bin_mul, ok_int, ok_bool, ok_slice, ok_str, ok_ptr, ok_map, ok_func, ok_iface, ok_nil, List.all_cons, List.all_nil, Bool.and_true, Bool.true_and, seg, setSeg, List.drop_succ_cons, List.drop_zero, List.take_succ_cons, List.take_zero, List.cons_append, List.nil_append, List.append_nil, List.length_cons, List.length_nil, List.drop_nil, List.size_toArray, Nat.reduceAdd, Nat.reduceLeDiff, Nat.reduceBEq, Nat.zero_add, Nat.le_refl, decide_true, mkV, List.headD_cons, cellsV, w_fldV, w_ext, w_fldP, List.getElem?_toArray, List.getElem?_cons_zero, List.getElem?_cons_succ, beq_self_eq_true, selV]
      rw [wrap_succ (by omega)]
      refine hK _ _ hlt ⟨rfl, rfl, fun x hx => ?_⟩
      rw [List.take_succ_eq_append_getElem hlt, List.mem_append, List.mem_singleton] at hx
      rcases hx with h | rfl
      · exact ht x h
      · exact hp
  · rw [any_step ht (by omega)] at hQ
    try simp only [sv_cons, sv_cons1, sc_cons, sc_cons1, asB_bool, ifB_true, ifB_false, un_not, bin_lss, bin_leq, bin_gtr, bin_geq, bin_eql, bin_neq, bin_add, bin_sub, bin_mul, ok_int, ok_bool, ok_slice, ok_str, ok_ptr, ok_map, ok_func, ok_iface, ok_nil, List.all_cons, List.all_nil, Bool.and_true, Bool.true_and, seg, setSeg, List.drop_succ_cons, List.drop_zero, List.take_succ_cons, List.take_zero, List.cons_append, List.nil_append, List.append_nil, List.length_cons, List.length_nil, List.drop_nil, List.size_toArray, Nat.reduceAdd, Nat.reduceLeDiff, Nat.reduceBEq, Nat.zero_add, Nat.le_refl, decide_true, mkV, List.headD_cons, cellsV, w_fldV, w_ext, w_fldP, List.getElem?_toArray, List.getElem?_cons_zero, List.getElem?_cons_succ, beq_self_eq_true, selV]
    exact hQ

theorem c_canon_fit_1 {x : Value} {b ticks : Nat} {xs : List Int} (hx : Sl (rI .u32) H A x xs) (hb : Bx H b [.int .i64 (ticks : Int)]) (ht : ticks ≤ 1000) (hQ : Q (.bool (decide (xs.length ≠ 2 * ticks))) H) :
    callV Try.prog (.func (.func fn_canon_fit_1) #[] #[.pointer (some ⟨b, 0, none⟩)]) [x] H Q := by
  apply C_canon_fit_1_of
  unfold S_canon_fit_1
  refine hx.len (hb.load rfl ?_)
  try simp only [sv_cons, sv_cons1, sc_cons, sc_cons1, asB_bool, ifB_true, ifB_false, un_not, bin_lss, bin_leq, bin_gtr, bin_geq, bin_eql, bin_neq, bin_add, bin_sub, bin_mul, ok_int, ok_bool, ok_slice, ok_str, ok_ptr, ok_map, ok_func, ok_iface, ok_nil, List.all_cons, List.all_nil, Bool.and_true, Bool.true_and, seg, setSeg, List.drop_succ_cons, List.drop_zero, List.take_succ_cons, List.take_zero, List.cons_append, List.nil_append, List.append_nil, List.length_cons, List.length_nil, List.drop_nil, List.size_toArray, Nat.reduceAdd, Nat.reduceLeDiff, Nat.reduceBEq, Nat.zero_add, Nat.le_refl, decide_true, mkV, List.headD_cons, cellsV, w_fldV, w_ext, w_fldP, List.getElem?_toArray, List.getElem?_cons_zero, List.getElem?_cons_succ, beq_self_eq_true, selV]
  rw [wrap_i64 (by unfold i64; omega), show decide ((xs.length : Int) ≠ 2 * (ticks : Int)) = decide (xs.length ≠ 2 * ticks) by rw [decide_eq_decide]; omega]
  exact hQ

theorem Ext.fr {W : Nat → Prop} {H H' : Heap} (h : Fr (fun y => ¬ W y) H H') : Ext W H W H' := ⟨h.size, fun y hy hn => h.same y hy hn, fun y hy => .inl hy⟩

/-- What canon.fit's loop keeps. -/
structure FtS (H0 : Heap) (a5 a7 a10 a11 : Nat) (v a : Value) (l : List Lvl) (all : List By) (ws : List Nat) (n : Nat) (H : Heap) : Prop where
  g : G H0 H
  b5 : Bx H a5 [v]
  b7 : Bx H a7 [a]
  b10 : Bx H a10 [.bool false]
  b11 : Bx H a11 [.int .u64 (n : Int)]
  ok : ∀ (k lev : Nat), k < n → ws[k]? = some lev → okT l all k lev
theorem FtS.up {H0 : Heap} {a5 a7 a10 a11 : Nat} {v a : Value} {l : List Lvl} {all : List By} {ws : List Nat} {n : Nat} {H1 H2 : Heap} (h : FtS H0 a5 a7 a10 a11 v a l all ws n H1) (g : G H1 H2) : FtS H0 a5 a7 a10 a11 v a l all ws n H2 :=
  ⟨h.g.trans g, h.b5.g g, h.b7.g g, h.b10.g g, h.b11.g g, h.ok⟩

theorem c_canon_fit {v w a : Value} {l : List Lvl} {cells : List (List Int)} {all : List By} {many : Int} {ticks : Nat} (hl : Sl rLvl H A v l) (hc : Sl (rSl (rI .u32)) H B w cells) (ha : Sl rBy H C a all) (hn : l.length ≤ 4) (hm : many = firstI l + tickI l * ticks)
    (ht : ticks ≤ 512) (hcl : cells.length ≤ 1000000) (hal : all.length ≤ 1000000) (hQ : ∀ H', G H H' → Q (.bool (decide (fitV l cells all ticks))) H') :
    callV Try.prog (fnV fn_canon_fit) [v, w, a, .int .i64 many, .int .i64 (ticks : Int)] H Q := by
  apply S_canon_fit_of
  unfold S_canon_fit
  have hlo := lvl_ok hl
  have hl := hl.old
  have hc := hc.old
  have ha := ha.old
  rw [hl.okcv, ifB_true]
  refine newC_bx fun H1 b5 g1 s1 => ?_
  rw [ha.okcv, ifB_true]
  refine newC_bx fun H2 b7 g2 s2 => ?_
  try simp only [sv_cons, sv_cons1, sc_cons, sc_cons1, asB_bool, ifB_true, ifB_false, un_not, bin_lss, bin_leq, bin_gtr, bin_geq, bin_eql, bin_neq, bin_add, bin_sub, bin_mul, ok_int, ok_bool, ok_slice, ok_str, ok_ptr, ok_map, ok_func, ok_iface, ok_nil, List.all_cons, List.all_nil, Bool.and_true, Bool.true_and, seg, setSeg, List.drop_succ_cons, List.drop_zero, List.take_succ_cons, List.take_zero, List.cons_append, List.nil_append, List.append_nil, List.length_cons, List.length_nil, List.drop_nil, List.size_toArray, Nat.reduceAdd, Nat.reduceLeDiff, Nat.reduceBEq, Nat.zero_add, Nat.le_refl, decide_true, mkV, List.headD_cons, cellsV, w_fldV, w_ext, w_fldP, List.getElem?_toArray, List.getElem?_cons_zero, List.getElem?_cons_succ, beq_self_eq_true, selV]
  refine newC_bx fun H3 b9 g3 s3 => newC_bx fun H4 b10 g4 s4 => ?_
  have b5 := ((b5.g g2).g g3).g g4
  have b7 := (b7.g g3).g g4
  have b9 := b9.g g4
  have g := ((g1.trans g2).trans g3).trans g4
  have bad : ∀ H', ¬ fitV l cells all ticks → G H H' → Q (.bool false) H' := fun H' h g => by
    have := hQ H' g
    rw [decide_eq_false h] at this
    exact this
  refine join_of (fun s H' => H' = H4 ∧ ∃ c : Bool, s = [[.bool c]] ∧ (c = false ↔ CellsOk l cells ticks ∧ (all.length : Int) = many)) (fun K hK => ?_) ?_
  · refine (hc.g g).len (b5.load rfl ?_)
    try simp only [sv_cons, sv_cons1, sc_cons, sc_cons1, asB_bool, ifB_true, ifB_false, un_not, bin_lss, bin_leq, bin_gtr, bin_geq, bin_eql, bin_neq, bin_add, bin_sub, bin_mul, ok_int, ok_bool, ok_slice, ok_str, ok_ptr, ok_map, ok_func, ok_iface, ok_nil, List.all_cons, List.all_nil, Bool.and_true, Bool.true_and, seg, setSeg, List.drop_succ_cons, List.drop_zero, List.take_succ_cons, List.take_zero, List.cons_append, List.nil_append, List.append_nil, List.length_cons, List.length_nil, List.drop_nil, List.size_toArray, Nat.reduceAdd, Nat.reduceLeDiff, Nat.reduceBEq, Nat.zero_add, Nat.le_refl, decide_true, mkV, List.headD_cons, cellsV, w_fldV, w_ext, w_fldP, List.getElem?_toArray, List.getElem?_cons_zero, List.getElem?_cons_succ, beq_self_eq_true, selV]
    refine (hl.g g).len ?_
    try simp only [sv_cons, sv_cons1, sc_cons, sc_cons1, asB_bool, ifB_true, ifB_false, un_not, bin_lss, bin_leq, bin_gtr, bin_geq, bin_eql, bin_neq, bin_add, bin_sub, bin_mul, ok_int, ok_bool, ok_slice, ok_str, ok_ptr, ok_map, ok_func, ok_iface, ok_nil, List.all_cons, List.all_nil, Bool.and_true, Bool.true_and, seg, setSeg, List.drop_succ_cons, List.drop_zero, List.take_succ_cons, List.take_zero, List.cons_append, List.nil_append, List.append_nil, List.length_cons, List.length_nil, List.drop_nil, List.size_toArray, Nat.reduceAdd, Nat.reduceLeDiff, Nat.reduceBEq, Nat.zero_add, Nat.le_refl, decide_true, mkV, List.headD_cons, cellsV, w_fldV, w_ext, w_fldP, List.getElem?_toArray, List.getElem?_cons_zero, List.getElem?_cons_succ, beq_self_eq_true, selV]
    refine ifD_of (fun c1 => hK _ _ ⟨rfl, true, rfl, by simp; rintro ⟨h, _⟩; omega⟩) (fun c1 => b7.load rfl ?_)
    try simp only [sv_cons, sv_cons1, sc_cons, sc_cons1, asB_bool, ifB_true, ifB_false, un_not, bin_lss, bin_leq, bin_gtr, bin_geq, bin_eql, bin_neq, bin_add, bin_sub, bin_mul, ok_int, ok_bool, ok_slice, ok_str, ok_ptr, ok_map, ok_func, ok_iface, ok_nil, List.all_cons, List.all_nil, Bool.and_true, Bool.true_and, seg, setSeg, List.drop_succ_cons, List.drop_zero, List.take_succ_cons, List.take_zero, List.cons_append, List.nil_append, List.append_nil, List.length_cons, List.length_nil, List.drop_nil, List.size_toArray, Nat.reduceAdd, Nat.reduceLeDiff, Nat.reduceBEq, Nat.zero_add, Nat.le_refl, decide_true, mkV, List.headD_cons, cellsV, w_fldV, w_ext, w_fldP, List.getElem?_toArray, List.getElem?_cons_zero, List.getElem?_cons_succ, beq_self_eq_true, selV]
    refine (ha.g g).len ?_
    try simp only [sv_cons, sv_cons1, sc_cons, sc_cons1, asB_bool, ifB_true, ifB_false, un_not, bin_lss, bin_leq, bin_gtr, bin_geq, bin_eql, bin_neq, bin_add, bin_sub, bin_mul, ok_int, ok_bool, ok_slice, ok_str, ok_ptr, ok_map, ok_func, ok_iface, ok_nil, List.all_cons, List.all_nil, Bool.and_true, Bool.true_and, seg, setSeg, List.drop_succ_cons, List.drop_zero, List.take_succ_cons, List.take_zero, List.cons_append, List.nil_append, List.append_nil, List.length_cons, List.length_nil, List.drop_nil, List.size_toArray, Nat.reduceAdd, Nat.reduceLeDiff, Nat.reduceBEq, Nat.zero_add, Nat.le_refl, decide_true, mkV, List.headD_cons, cellsV, w_fldV, w_ext, w_fldP, List.getElem?_toArray, List.getElem?_cons_zero, List.getElem?_cons_succ, beq_self_eq_true, selV]
    refine ifD_of (fun c2 => hK _ _ ⟨rfl, true, rfl, by simp; intro _; omega⟩) (fun c2 => ?_)
    refine c_Contains_u32 (p := fun x => decide (x.length ≠ 2 * ticks)) (hc.g g) hcl (fun u x K' hu hK' => c_canon_fit_1 hu b9 (by omega) hK') ?_
    refine hK _ _ ⟨rfl, _, rfl, ?_⟩
    rw [List.any_eq_false]
    constructor
    · intro h
      exact ⟨⟨by omega, fun x hx => by have := h x hx; simp at this; exact this⟩, by omega⟩
    · rintro ⟨⟨_, h⟩, _⟩ x hx
      simp [h x hx]
  rintro s H' ⟨rfl, c, rfl, hcc⟩
  try simp only [sv_cons, sv_cons1, sc_cons, sc_cons1, asB_bool, ifB_true, ifB_false, un_not, bin_lss, bin_leq, bin_gtr, bin_geq, bin_eql, bin_neq, bin_add, bin_sub, bin_mul, ok_int, ok_bool, ok_slice, ok_str, ok_ptr, ok_map, ok_func, ok_iface, ok_nil, List.all_cons, List.all_nil, Bool.and_true, Bool.true_and, seg, setSeg, List.drop_succ_cons, List.drop_zero, List.take_succ_cons, List.take_zero, List.cons_append, List.nil_append, List.append_nil, List.length_cons, List.length_nil, List.drop_nil, List.size_toArray, Nat.reduceAdd, Nat.reduceLeDiff, Nat.reduceBEq, Nat.zero_add, Nat.le_refl, decide_true, mkV, List.headD_cons, cellsV, w_fldV, w_ext, w_fldP, List.getElem?_toArray, List.getElem?_cons_zero, List.getElem?_cons_succ, beq_self_eq_true, selV]
  refine ifB_of (fun hct => ?_) (fun hcf => ?_)
  · refine b10.store rfl fun H5 b10 f5 s5 => b10.load rfl ?_
    exact bad _ (fun h => by have := hcc.2 ⟨h.1, by rw [hm]; exact h.2.1⟩; rw [hct] at this; cases this) (g.then f5 fun y hy => show y ≠ H3.size by omega)
  obtain ⟨hco, hmany⟩ := hcc.1 hcf
  refine newC_bx fun H5 b11 g5 s5 => b11.store rfl fun H6 b11 f6 s6 => ?_
  have b5 := (b5.g g5).up f6 (show H.size ≠ H'.size by omega)
  have b7 := (b7.g g5).up f6 (show H1.size ≠ H'.size by omega)
  have b9 := (b9.g g5).up f6 (show H2.size ≠ H'.size by omega)
  have b10 := (b10.g g5).up f6 (show H3.size ≠ H'.size by omega)
  have g6 : G H H6 := (g.trans g5).then f6 fun y hy => show y ≠ H'.size by omega
  refine b5.load rfl ?_
  try simp only [sv_cons, sv_cons1, sc_cons, sc_cons1, asB_bool, ifB_true, ifB_false, un_not, bin_lss, bin_leq, bin_gtr, bin_geq, bin_eql, bin_neq, bin_add, bin_sub, bin_mul, ok_int, ok_bool, ok_slice, ok_str, ok_ptr, ok_map, ok_func, ok_iface, ok_nil, List.all_cons, List.all_nil, Bool.and_true, Bool.true_and, seg, setSeg, List.drop_succ_cons, List.drop_zero, List.take_succ_cons, List.take_zero, List.cons_append, List.nil_append, List.append_nil, List.length_cons, List.length_nil, List.drop_nil, List.size_toArray, Nat.reduceAdd, Nat.reduceLeDiff, Nat.reduceBEq, Nat.zero_add, Nat.le_refl, decide_true, mkV, List.headD_cons, cellsV, w_fldV, w_ext, w_fldP, List.getElem?_toArray, List.getElem?_cons_zero, List.getElem?_cons_succ, beq_self_eq_true, selV]
  refine b9.load rfl ?_
  try simp only [sv_cons, sv_cons1, sc_cons, sc_cons1, asB_bool, ifB_true, ifB_false, un_not, bin_lss, bin_leq, bin_gtr, bin_geq, bin_eql, bin_neq, bin_add, bin_sub, bin_mul, ok_int, ok_bool, ok_slice, ok_str, ok_ptr, ok_map, ok_func, ok_iface, ok_nil, List.all_cons, List.all_nil, Bool.and_true, Bool.true_and, seg, setSeg, List.drop_succ_cons, List.drop_zero, List.take_succ_cons, List.take_zero, List.cons_append, List.nil_append, List.append_nil, List.length_cons, List.length_nil, List.drop_nil, List.size_toArray, Nat.reduceAdd, Nat.reduceLeDiff, Nat.reduceBEq, Nat.zero_add, Nat.le_refl, decide_true, mkV, List.headD_cons, cellsV, w_fldV, w_ext, w_fldP, List.getElem?_toArray, List.getElem?_cons_zero, List.getElem?_cons_succ, beq_self_eq_true, selV]
  have hTl := allT_len (l := l) (cells := cells) (ticks := ticks)
  have hTok := allT_ok (cells := cells) (ticks := ticks) hlo
  have hws := wr_all (cells := cells) (ticks := ticks) hlo
  generalize hT : allT l cells ticks = T at *
  have hwl : (wrL T).length = all.length := by omega
  generalize hWf : (fun y : Nat => y = H3.size ∨ y = H'.size) = Wf
  have hfit : fitV l cells all ticks ↔ fitP l all (wrL T) := ⟨fun h => by have := h.2.2; rw [hT] at this; exact this, fun h => ⟨hco, by omega, by rw [hT]; exact h⟩⟩
  refine c_turns_range (m := H.size) (hl.g g6) (hc.g g6) g6.size (by omega) (by omega) hco (fun i W H1' => Wf = W ∧ FtS H H.size H1.size H3.size H'.size v a l all (wrL T) (wrL (T.take i)).length H1')
    (fun W H1' => Wf = W ∧ G H H1' ∧ Bx H1' H3.size [.bool false] ∧ ¬ fitP l all (wrL T)) Wf ?_ ?_ ?_ ?_ ?_ ?_ ?_ ?_
  · intro y hy
    rw [← hWf] at hy
    rcases hy with rfl | rfl <;> omega
  · rintro i W Ha Hb ⟨rfl, h⟩ g
    exact ⟨rfl, h.up g⟩
  · rintro W Ha Hb ⟨rfl, h1, h2, h3⟩ g
    exact ⟨rfl, h1.trans g, h2.g g, h3⟩
  · intro Ha ga
    exact ⟨rfl, g6.trans ga, b5.g ga, b7.g ga, b10.g ga, by simpa [wrL] using b11.g ga, fun k lev hk => by simp [wrL] at hk⟩
  · rintro i W Ha ⟨rfl, h⟩ y hy
    rw [← hWf] at hy
    rcases hy with rfl | rfl
    · exact h.b10.lt
    · exact h.b11.lt
  · rintro i W Ha t u K hti ⟨rfl, hF⟩ hu hWb hK hE
    rw [hT] at hti
    have htok := hTok t (List.mem_of_getElem? hti)
    obtain ⟨x, hxl, hxo, hxb⟩ := htok.ex
    unfold arg2
    try simp only [sv_cons, sv_cons1, sc_cons, sc_cons1, asB_bool, ifB_true, ifB_false, un_not, bin_lss, bin_leq, bin_gtr, bin_geq, bin_eql, bin_neq, bin_add, bin_sub, bin_mul, ok_int, ok_bool, ok_slice, ok_str, ok_ptr, ok_map, ok_func, ok_iface, ok_nil, List.all_cons, List.all_nil, Bool.and_true, Bool.true_and, seg, setSeg, List.drop_succ_cons, List.drop_zero, List.take_succ_cons, List.take_zero, List.cons_append, List.nil_append, List.append_nil, List.length_cons, List.length_nil, List.drop_nil, List.size_toArray, Nat.reduceAdd, Nat.reduceLeDiff, Nat.reduceBEq, Nat.zero_add, Nat.le_refl, decide_true, mkV, List.headD_cons, cellsV, w_fldV, w_ext, w_fldP, List.getElem?_toArray, List.getElem?_cons_zero, List.getElem?_cons_succ, beq_self_eq_true, selV]
    refine newC_bx fun Hb b12 gb sb => b12.storeA rfl rfl rfl fun Hc b12 fc sc => ?_
    have gc : G Ha Hc := gb.then fc fun y hy => show y ≠ Ha.size by omega
    have haz := hF.b11.lt
    have hF := hF.up gc
    refine join_of (fun s Hd => s = [] ∧ Fr (fun y => ¬ Wf y) Ha Hd ∧ FtS H H.size H1.size H3.size H'.size v a l all (wrL T) (wrL (T.take (i + 1))).length Hd) (fun K2 hK2 => ?_) ?_
    · try simp only [sv_cons, sv_cons1, sc_cons, sc_cons1, asB_bool, ifB_true, ifB_false, un_not, bin_lss, bin_leq, bin_gtr, bin_geq, bin_eql, bin_neq, bin_add, bin_sub, bin_mul, ok_int, ok_bool, ok_slice, ok_str, ok_ptr, ok_map, ok_func, ok_iface, ok_nil, List.all_cons, List.all_nil, Bool.and_true, Bool.true_and, seg, setSeg, List.drop_succ_cons, List.drop_zero, List.take_succ_cons, List.take_zero, List.cons_append, List.nil_append, List.append_nil, List.length_cons, List.length_nil, List.drop_nil, List.size_toArray, Nat.reduceAdd, Nat.reduceLeDiff, Nat.reduceBEq, Nat.zero_add, Nat.le_refl, decide_true, mkV, List.headD_cons, cellsV, w_fldV, w_ext, w_fldP, List.getElem?_toArray, List.getElem?_cons_zero, List.getElem?_cons_succ, beq_self_eq_true, selV]
      refine b12.loadF (by simp) ?_
      try simp only [sv_cons, sv_cons1, sc_cons, sc_cons1, asB_bool, ifB_true, ifB_false, un_not, bin_lss, bin_leq, bin_gtr, bin_geq, bin_eql, bin_neq, bin_add, bin_sub, bin_mul, ok_int, ok_bool, ok_slice, ok_str, ok_ptr, ok_map, ok_func, ok_iface, ok_nil, List.all_cons, List.all_nil, Bool.and_true, Bool.true_and, seg, setSeg, List.drop_succ_cons, List.drop_zero, List.take_succ_cons, List.take_zero, List.cons_append, List.nil_append, List.append_nil, List.length_cons, List.length_nil, List.drop_nil, List.size_toArray, Nat.reduceAdd, Nat.reduceLeDiff, Nat.reduceBEq, Nat.zero_add, Nat.le_refl, decide_true, mkV, List.headD_cons, cellsV, w_fldV, w_ext, w_fldP, List.getElem?_toArray, List.getElem?_cons_zero, List.getElem?_cons_succ, beq_self_eq_true, selV]
      refine ifD_of (fun c1 => hK2 _ _ ⟨rfl, gc.fr, by rw [wrL_len1 hti c1]; exact hF⟩) (fun c1 => ?_)
      have hu := hu.g gc
      refine hu.len ?_
      refine loop_up t.at'.length (fun j st Hd => Fr (fun y => ¬ Wf y) Ha Hd ∧ Bx Hd Ha.size [.int .u8 t.kind, .int .i64 (t.level : Int), .int .i64 0, .slice none 0 0] ∧ FtS H H.size H1.size H3.size H'.size v a l all (wrL T) ((wrL (T.take i)).length + j) Hd ∧ st = [[.int .i64 (j : Int)]])
        ⟨gc.fr, b12, hF, rfl⟩ ?_
      rintro j st Hd K3 hj ⟨fd, b12, hF, rfl⟩ hK3
      try simp only [sv_cons, sv_cons1, sc_cons, sc_cons1, asB_bool, ifB_true, ifB_false, un_not, bin_lss, bin_leq, bin_gtr, bin_geq, bin_eql, bin_neq, bin_add, bin_sub, bin_mul, ok_int, ok_bool, ok_slice, ok_str, ok_ptr, ok_map, ok_func, ok_iface, ok_nil, List.all_cons, List.all_nil, Bool.and_true, Bool.true_and, seg, setSeg, List.drop_succ_cons, List.drop_zero, List.take_succ_cons, List.take_zero, List.cons_append, List.nil_append, List.append_nil, List.length_cons, List.length_nil, List.drop_nil, List.size_toArray, Nat.reduceAdd, Nat.reduceLeDiff, Nat.reduceBEq, Nat.zero_add, Nat.le_refl, decide_true, mkV, List.headD_cons, cellsV, w_fldV, w_ext, w_fldP, List.getElem?_toArray, List.getElem?_cons_zero, List.getElem?_cons_succ, beq_self_eq_true, selV]
      refine ifD_of (fun c2 => ?_) (fun c2 => ?_)
      · have hjl : j < t.at'.length := by omega
        have hwj := wrL_at hti c1 hjl
        have hklt := (List.getElem?_eq_some_iff.1 hwj).1
        generalize hk : (wrL (T.take i)).length + j = k at *
        have hka : k < all.length := by omega
        have hax : all[k]? = some all[k] := List.getElem?_eq_getElem hka
        have hgd : all.getD k [] = all[k] := by rw [List.getD_eq_getElem?_getD, hax]; rfl
        have hokT : okT l all k t.level ↔ ((all[k].length : Int) = 8 + x.width ∧ numB all[k] = k) := by
          unfold okT
          rw [hgd]
          exact ⟨fun ⟨y, h1, h2, h3⟩ => by rw [hxl] at h1; cases h1; exact ⟨h2, h3⟩, fun ⟨h2, h3⟩ => ⟨x, hxl, h2, h3⟩⟩
        generalize all[k] = bs at *
        refine hF.b7.load rfl ?_
        try simp only [sv_cons, sv_cons1, sc_cons, sc_cons1, asB_bool, ifB_true, ifB_false, un_not, bin_lss, bin_leq, bin_gtr, bin_geq, bin_eql, bin_neq, bin_add, bin_sub, bin_mul, ok_int, ok_bool, ok_slice, ok_str, ok_ptr, ok_map, ok_func, ok_iface, ok_nil, List.all_cons, List.all_nil, Bool.and_true, Bool.true_and, seg, setSeg, List.drop_succ_cons, List.drop_zero, List.take_succ_cons, List.take_zero, List.cons_append, List.nil_append, List.append_nil, List.length_cons, List.length_nil, List.drop_nil, List.size_toArray, Nat.reduceAdd, Nat.reduceLeDiff, Nat.reduceBEq, Nat.zero_add, Nat.le_refl, decide_true, mkV, List.headD_cons, cellsV, w_fldV, w_ext, w_fldP, List.getElem?_toArray, List.getElem?_cons_zero, List.getElem?_cons_succ, beq_self_eq_true, selV]
        refine hF.b11.load rfl ?_
        try simp only [sv_cons, sv_cons1, sc_cons, sc_cons1, asB_bool, ifB_true, ifB_false, un_not, bin_lss, bin_leq, bin_gtr, bin_geq, bin_eql, bin_neq, bin_add, bin_sub, bin_mul, ok_int, ok_bool, ok_slice, ok_str, ok_ptr, ok_map, ok_func, ok_iface, ok_nil, List.all_cons, List.all_nil, Bool.and_true, Bool.true_and, seg, setSeg, List.drop_succ_cons, List.drop_zero, List.take_succ_cons, List.take_zero, List.cons_append, List.nil_append, List.append_nil, List.length_cons, List.length_nil, List.drop_nil, List.size_toArray, Nat.reduceAdd, Nat.reduceLeDiff, Nat.reduceBEq, Nat.zero_add, Nat.le_refl, decide_true, mkV, List.headD_cons, cellsV, w_fldV, w_ext, w_fldP, List.getElem?_toArray, List.getElem?_cons_zero, List.getElem?_cons_succ, beq_self_eq_true, selV]
        refine (ha.g hF.g).atS hax fun p q hp hq => ?_
        refine hp.load rfl ?_
        try simp only [sv_cons, sv_cons1, sc_cons, sc_cons1, asB_bool, ifB_true, ifB_false, un_not, bin_lss, bin_leq, bin_gtr, bin_geq, bin_eql, bin_neq, bin_add, bin_sub, bin_mul, ok_int, ok_bool, ok_slice, ok_str, ok_ptr, ok_map, ok_func, ok_iface, ok_nil, List.all_cons, List.all_nil, Bool.and_true, Bool.true_and, seg, setSeg, List.drop_succ_cons, List.drop_zero, List.take_succ_cons, List.take_zero, List.cons_append, List.nil_append, List.append_nil, List.length_cons, List.length_nil, List.drop_nil, List.size_toArray, Nat.reduceAdd, Nat.reduceLeDiff, Nat.reduceBEq, Nat.zero_add, Nat.le_refl, decide_true, mkV, List.headD_cons, cellsV, w_fldV, w_ext, w_fldP, List.getElem?_toArray, List.getElem?_cons_zero, List.getElem?_cons_succ, beq_self_eq_true, selV]
        obtain ⟨_, _, _, _, o1, o2, o3, o4⟩ := id hxo
        refine join_of (fun s He => He = Hd ∧ ∃ c : Bool, s = [[.bool c]] ∧ (c = false ↔ okT l all k t.level)) (fun K4 hK4 => ?_) ?_
        · refine hq.len ?_
          try simp only [sv_cons, sv_cons1, sc_cons, sc_cons1, asB_bool, ifB_true, ifB_false, un_not, bin_lss, bin_leq, bin_gtr, bin_geq, bin_eql, bin_neq, bin_add, bin_sub, bin_mul, ok_int, ok_bool, ok_slice, ok_str, ok_ptr, ok_map, ok_func, ok_iface, ok_nil, List.all_cons, List.all_nil, Bool.and_true, Bool.true_and, seg, setSeg, List.drop_succ_cons, List.drop_zero, List.take_succ_cons, List.take_zero, List.cons_append, List.nil_append, List.append_nil, List.length_cons, List.length_nil, List.drop_nil, List.size_toArray, Nat.reduceAdd, Nat.reduceLeDiff, Nat.reduceBEq, Nat.zero_add, Nat.le_refl, decide_true, mkV, List.headD_cons, cellsV, w_fldV, w_ext, w_fldP, List.getElem?_toArray, List.getElem?_cons_zero, List.getElem?_cons_succ, beq_self_eq_true, selV]
          refine hF.b5.load rfl ?_
          try simp only [sv_cons, sv_cons1, sc_cons, sc_cons1, asB_bool, ifB_true, ifB_false, un_not, bin_lss, bin_leq, bin_gtr, bin_geq, bin_eql, bin_neq, bin_add, bin_sub, bin_mul, ok_int, ok_bool, ok_slice, ok_str, ok_ptr, ok_map, ok_func, ok_iface, ok_nil, List.all_cons, List.all_nil, Bool.and_true, Bool.true_and, seg, setSeg, List.drop_succ_cons, List.drop_zero, List.take_succ_cons, List.take_zero, List.cons_append, List.nil_append, List.append_nil, List.length_cons, List.length_nil, List.drop_nil, List.size_toArray, Nat.reduceAdd, Nat.reduceLeDiff, Nat.reduceBEq, Nat.zero_add, Nat.le_refl, decide_true, mkV, List.headD_cons, cellsV, w_fldV, w_ext, w_fldP, List.getElem?_toArray, List.getElem?_cons_zero, List.getElem?_cons_succ, beq_self_eq_true, selV]
          refine b12.loadF (by simp) ?_
          try simp only [sv_cons, sv_cons1, sc_cons, sc_cons1, asB_bool, ifB_true, ifB_false, un_not, bin_lss, bin_leq, bin_gtr, bin_geq, bin_eql, bin_neq, bin_add, bin_sub, bin_mul, ok_int, ok_bool, ok_slice, ok_str, ok_ptr, ok_map, ok_func, ok_iface, ok_nil, List.all_cons, List.all_nil, Bool.and_true, Bool.true_and, seg, setSeg, List.drop_succ_cons, List.drop_zero, List.take_succ_cons, List.take_zero, List.cons_append, List.nil_append, List.append_nil, List.length_cons, List.length_nil, List.drop_nil, List.size_toArray, Nat.reduceAdd, Nat.reduceLeDiff, Nat.reduceBEq, Nat.zero_add, Nat.le_refl, decide_true, mkV, List.headD_cons, cellsV, w_fldV, w_ext, w_fldP, List.getElem?_toArray, List.getElem?_cons_zero, List.getElem?_cons_succ, beq_self_eq_true, selV]
          refine (hl.g hF.g).at rfl hxl fun p2 cs hp2 hr2 => ?_
          obtain ⟨rfl, _⟩ := hr2
          refine hp2.fld1 (by simp) fun p3 hp3 => hp3.load rfl ?_
          try simp only [sv_cons, sv_cons1, sc_cons, sc_cons1, asB_bool, ifB_true, ifB_false, un_not, bin_lss, bin_leq, bin_gtr, bin_geq, bin_eql, bin_neq, bin_add, bin_sub, bin_mul, ok_int, ok_bool, ok_slice, ok_str, ok_ptr, ok_map, ok_func, ok_iface, ok_nil, List.all_cons, List.all_nil, Bool.and_true, Bool.true_and, seg, setSeg, List.drop_succ_cons, List.drop_zero, List.take_succ_cons, List.take_zero, List.cons_append, List.nil_append, List.append_nil, List.length_cons, List.length_nil, List.drop_nil, List.size_toArray, Nat.reduceAdd, Nat.reduceLeDiff, Nat.reduceBEq, Nat.zero_add, Nat.le_refl, decide_true, mkV, List.headD_cons, cellsV, w_fldV, w_ext, w_fldP, List.getElem?_toArray, List.getElem?_cons_zero, List.getElem?_cons_succ, beq_self_eq_true, selV]
          rw [wrap_i64 (x := 8 + x.width) (by unfold i64; omega)]
          refine ifD_of (fun c3 => ?_) (fun c3 => ?_)
          · refine ⟨hp3.load rfl rfl, b12.loadF (by simp) rfl, hF.b5.load rfl rfl, hq.len rfl, ?_⟩
            exact hK4 _ _ ⟨rfl, true, rfl, by simp; intro h; exact absurd (hokT.1 h).1 c3⟩
          · refine hF.b11.load rfl ?_
            refine c_canon_number hq (by omega) ?_
            refine ⟨hF.b11.load rfl rfl, hp3.load rfl rfl, b12.loadF (by simp) rfl, hF.b5.load rfl rfl, hq.len rfl, ?_⟩
            try simp only [sv_cons, sv_cons1, sc_cons, sc_cons1, asB_bool, ifB_true, ifB_false, un_not, bin_lss, bin_leq, bin_gtr, bin_geq, bin_eql, bin_neq, bin_add, bin_sub, bin_mul, ok_int, ok_bool, ok_slice, ok_str, ok_ptr, ok_map, ok_func, ok_iface, ok_nil, List.all_cons, List.all_nil, Bool.and_true, Bool.true_and, seg, setSeg, List.drop_succ_cons, List.drop_zero, List.take_succ_cons, List.take_zero, List.cons_append, List.nil_append, List.append_nil, List.length_cons, List.length_nil, List.drop_nil, List.size_toArray, Nat.reduceAdd, Nat.reduceLeDiff, Nat.reduceBEq, Nat.zero_add, Nat.le_refl, decide_true, mkV, List.headD_cons, cellsV, w_fldV, w_ext, w_fldP, List.getElem?_toArray, List.getElem?_cons_zero, List.getElem?_cons_succ, beq_self_eq_true, selV]
            refine hK4 _ _ ⟨rfl, _, rfl, ?_⟩
            rw [hokT, decide_eq_false_iff_not]
            omega
        · rintro s He ⟨rfl, c, rfl, hc4⟩
          try simp only [sv_cons, sv_cons1, sc_cons, sc_cons1, asB_bool, ifB_true, ifB_false, un_not, bin_lss, bin_leq, bin_gtr, bin_geq, bin_eql, bin_neq, bin_add, bin_sub, bin_mul, ok_int, ok_bool, ok_slice, ok_str, ok_ptr, ok_map, ok_func, ok_iface, ok_nil, List.all_cons, List.all_nil, Bool.and_true, Bool.true_and, seg, setSeg, List.drop_succ_cons, List.drop_zero, List.take_succ_cons, List.take_zero, List.cons_append, List.nil_append, List.append_nil, List.length_cons, List.length_nil, List.drop_nil, List.size_toArray, Nat.reduceAdd, Nat.reduceLeDiff, Nat.reduceBEq, Nat.zero_add, Nat.le_refl, decide_true, mkV, List.headD_cons, cellsV, w_fldV, w_ext, w_fldP, List.getElem?_toArray, List.getElem?_cons_zero, List.getElem?_cons_succ, beq_self_eq_true, selV]
          refine ifB_of (fun hct => ?_) (fun hcf => ?_)
          · refine hF.b10.store rfl fun Hf b10 ff sf => ?_
            refine hE Wf Hf ⟨rfl, hF.g.then ff fun y hy => show y ≠ H3.size by omega, b10, fun hfp => ?_⟩ (Ext.fr (fd.trans ff fun y _ hn => ⟨hn, fun e => hn (by rw [← hWf]; exact .inl e)⟩))
            have := hc4.2 (hfp k _ hwj)
            rw [hct] at this; cases this
          · refine hF.b11.load rfl ?_
            try simp only [sv_cons, sv_cons1, sc_cons, sc_cons1, asB_bool, ifB_true, ifB_false, un_not, bin_lss, bin_leq, bin_gtr, bin_geq, bin_eql, bin_neq, bin_add, bin_sub, bin_mul, ok_int, ok_bool, ok_slice, ok_str, ok_ptr, ok_map, ok_func, ok_iface, ok_nil, List.all_cons, List.all_nil, Bool.and_true, Bool.true_and, seg, setSeg, List.drop_succ_cons, List.drop_zero, List.take_succ_cons, List.take_zero, List.cons_append, List.nil_append, List.append_nil, List.length_cons, List.length_nil, List.drop_nil, List.size_toArray, Nat.reduceAdd, Nat.reduceLeDiff, Nat.reduceBEq, Nat.zero_add, Nat.le_refl, decide_true, mkV, List.headD_cons, cellsV, w_fldV, w_ext, w_fldP, List.getElem?_toArray, List.getElem?_cons_zero, List.getElem?_cons_succ, beq_self_eq_true, selV]
            rw [show IntKind.u64.wrap ((k : Int) + 1) = ((k + 1 : Nat) : Int) by rw [show (k : Int) + 1 = ((k + 1 : Nat) : Int) by omega, wrap_nat (by show k + 1 < 2 ^ 64; omega)]]
            refine hF.b11.store rfl fun Hf b11 ff sf => ?_
            try simp only [sv_cons, sv_cons1, sc_cons, sc_cons1, asB_bool, ifB_true, ifB_false, un_not, bin_lss, bin_leq, bin_gtr, bin_geq, bin_eql, bin_neq, bin_add, bin_sub, bin_mul, ok_int, ok_bool, ok_slice, ok_str, ok_ptr, ok_map, ok_func, ok_iface, ok_nil, List.all_cons, List.all_nil, Bool.and_true, Bool.true_and, seg, setSeg, List.drop_succ_cons, List.drop_zero, List.take_succ_cons, List.take_zero, List.cons_append, List.nil_append, List.append_nil, List.length_cons, List.length_nil, List.drop_nil, List.size_toArray, Nat.reduceAdd, Nat.reduceLeDiff, Nat.reduceBEq, Nat.zero_add, Nat.le_refl, decide_true, mkV, List.headD_cons, cellsV, w_fldV, w_ext, w_fldP, List.getElem?_toArray, List.getElem?_cons_zero, List.getElem?_cons_succ, beq_self_eq_true, selV]
            rw [wrap_i64 (by unfold i64; omega)]
            have hah := gc.size
            refine hK3 _ _ hjl ⟨fd.trans ff fun y _ hn => ⟨hn, fun e => hn (by rw [← hWf]; exact .inr e)⟩, b12.up ff (show Ha.size ≠ H'.size by omega), ⟨hF.g.then ff fun y hy => show y ≠ H'.size by omega, hF.b5.up ff (show H.size ≠ H'.size by omega), hF.b7.up ff (show H1.size ≠ H'.size by omega), hF.b10.up ff (show H3.size ≠ H'.size by omega), by rw [← Nat.add_assoc, hk]; exact b11, fun k2 lev hk2 hwk => ?_⟩, by simp⟩
            by_cases e : k2 = k
            · subst e
              rw [hwj] at hwk
              cases hwk
              exact hc4.1 hcf
            · exact hF.ok k2 lev (by omega) hwk
      · have : j = t.at'.length := by omega
        subst this
        exact hK2 _ _ ⟨rfl, fd, by rw [wrL_len hti c1]; exact hF⟩
    · rintro s Hd ⟨rfl, fd, hF⟩
      exact hK Wf Hd ⟨rfl, hF⟩ (Ext.fr fd)
  · rintro W Ha ⟨rfl, hF⟩
    rw [hT, List.take_length] at hF
    refine hF.b10.store rfl fun Hb b10 fb sb => b10.load rfl ?_
    have := hQ Hb (hF.g.then fb fun y hy => show y ≠ H3.size by omega)
    rw [decide_eq_true (hfit.2 fun k lev hk => hF.ok k lev (List.getElem?_eq_some_iff.1 hk).1 hk)] at this
    exact this
  · rintro W Ha ⟨rfl, h1, h2, h3⟩
    refine ⟨_, List.mem_singleton.2 rfl, rfl, ?_⟩
    show loadP false 1 (.pointer (some ⟨H3.size, 0, none⟩)) Ha fun r10 => Q r10 Ha
    refine h2.load rfl ?_
    exact bad _ (fun h => h3 (hfit.1 h)) h1

end Go.Proofs.Ytlalkgkicccjiaa
