/- Contracts: paths, leaves turned round. -/
import Derived.Test.YtlalkgkicccjiaaConDev
import Derived.Test.YtlalkgkicccjiaaShCanon
import Derived.Test.YtlalkgkicccjiaaMdGeo
namespace Go.Proofs.Ytlalkgkicccjiaa
open Go.Ab Go.Md
set_option linter.unusedVariables false
set_option linter.unusedSimpArgs false
set_option maxRecDepth 20000

variable {H : Heap} {Q : Value → Heap → Prop} {A B C : Nat → Prop}

theorem i64_nat {x : Nat} (h : x ≤ 4611686018427387904) : i64 (x : Int) := by unfold i64; omega

theorem c_geo_asked {h : Int} {v : Value} {l : List Int} (hv : Sl (rI .i64) H A v l) (hl : l.length ≤ 1000000) (hQ : Q (.int .i64 (askedE h l)) H) : callV Try.prog (fnV fn_geo_asked) [.int .i64 h, v] H Q := by
  apply S_geo_asked_of
  unfold S_geo_asked
  refine c_geo_Check ?_
  try simp only [sv_cons, sv_cons1, sc_cons, sc_cons1, asB_bool, ifB_true, ifB_false, un_not, bin_lss, bin_leq, bin_gtr, bin_geq, bin_eql, bin_neq, bin_add, bin_sub, bin_mul, ok_int, ok_bool, ok_slice, ok_str, ok_ptr, ok_map, ok_func, ok_iface, ok_nil, List.all_cons, List.all_nil, Bool.and_true, Bool.true_and, seg, setSeg, List.drop_succ_cons, List.drop_zero, List.take_succ_cons, List.take_zero, List.cons_append, List.nil_append, List.append_nil, List.length_cons, List.length_nil, List.drop_nil, List.size_toArray, Nat.reduceAdd, Nat.reduceLeDiff, Nat.reduceBEq, Nat.zero_add, Nat.le_refl, decide_true, mkV, List.headD_cons, cellsV, w_fldV, w_ext, w_fldP, List.getElem?_toArray, List.getElem?_cons_zero, List.getElem?_cons_succ, beq_self_eq_true, selV]
  unfold askedE at hQ
  refine ifD_of (fun h1 => ?_) (fun h1 => ?_)
  · rw [if_pos h1] at hQ
    have : highE h = 2 := by unfold highE at h1 ⊢; split <;> simp_all
    rw [this]; exact hQ
  · rw [if_neg h1] at hQ
    have hh := highE_ok.1 (Classical.not_not.1 h1)
    have hm := many_bound hh.1 hh.2
    refine hv.len ?_
    refine loop_up l.length (fun i st H' => H' = H ∧ st = [[.int .i64 (i : Int)]] ∧ ∀ n ∈ l.take i, ¬ (n < 0 ∨ n ≥ many h)) ⟨rfl, rfl, by simp⟩ ?_
    rintro i st H' K hi ⟨rfl, rfl, hno⟩ hK
    try simp only [sv_cons, sv_cons1, sc_cons, sc_cons1, asB_bool, ifB_true, ifB_false, un_not, bin_lss, bin_leq, bin_gtr, bin_geq, bin_eql, bin_neq, bin_add, bin_sub, bin_mul, ok_int, ok_bool, ok_slice, ok_str, ok_ptr, ok_map, ok_func, ok_iface, ok_nil, List.all_cons, List.all_nil, Bool.and_true, Bool.true_and, seg, setSeg, List.drop_succ_cons, List.drop_zero, List.take_succ_cons, List.take_zero, List.cons_append, List.nil_append, List.append_nil, List.length_cons, List.length_nil, List.drop_nil, List.size_toArray, Nat.reduceAdd, Nat.reduceLeDiff, Nat.reduceBEq, Nat.zero_add, Nat.le_refl, decide_true, mkV, List.headD_cons, cellsV, w_fldV, w_ext, w_fldP, List.getElem?_toArray, List.getElem?_cons_zero, List.getElem?_cons_succ, beq_self_eq_true, selV]
    refine ifD_of (fun hlt => ?_) (fun hge => ?_)
    · have hlt : i < l.length := by omega
      refine hv.getI (List.getElem?_eq_getElem hlt) fun _ => ?_
      refine join_of (fun s H1 => H1 = H' ∧ s = [[.bool (decide (l[i] < 0 ∨ l[i] ≥ many h))]]) (fun K hK => ?_) ?_
      · try simp only [sv_cons, sv_cons1, sc_cons, sc_cons1, asB_bool, ifB_true, ifB_false, un_not, bin_lss, bin_leq, bin_gtr, bin_geq, bin_eql, bin_neq, bin_add, bin_sub, bin_mul, ok_int, ok_bool, ok_slice, ok_str, ok_ptr, ok_map, ok_func, ok_iface, ok_nil, List.all_cons, List.all_nil, Bool.and_true, Bool.true_and, seg, setSeg, List.drop_succ_cons, List.drop_zero, List.take_succ_cons, List.take_zero, List.cons_append, List.nil_append, List.append_nil, List.length_cons, List.length_nil, List.drop_nil, List.size_toArray, Nat.reduceAdd, Nat.reduceLeDiff, Nat.reduceBEq, Nat.zero_add, Nat.le_refl, decide_true, mkV, List.headD_cons, cellsV, w_fldV, w_ext, w_fldP, List.getElem?_toArray, List.getElem?_cons_zero, List.getElem?_cons_succ, beq_self_eq_true, selV]
        refine ifD_of (fun hc => hK _ _ ⟨rfl, jb_t (.inl hc)⟩) (fun hc => ?_)
        rw [show (.int .i64 h : Value) = .int .i64 ((h.toNat : Nat) : Int) by rw [Int.toNat_of_nonneg (by omega)], show (.int .i64 1 : Value) = .int .i64 ((1 : Nat) : Int) from rfl]
        have hp := pow_le64 (h := h.toNat) (by omega)
        rw [w_shlN (by show h.toNat < 64; omega) (by show 1 * 2 ^ h.toNat < 2 ^ 63; omega), Nat.one_mul, ← many_nat]
        try simp only [sv_cons, sv_cons1, sc_cons, sc_cons1, asB_bool, ifB_true, ifB_false, un_not, bin_lss, bin_leq, bin_gtr, bin_geq, bin_eql, bin_neq, bin_add, bin_sub, bin_mul, ok_int, ok_bool, ok_slice, ok_str, ok_ptr, ok_map, ok_func, ok_iface, ok_nil, List.all_cons, List.all_nil, Bool.and_true, Bool.true_and, seg, setSeg, List.drop_succ_cons, List.drop_zero, List.take_succ_cons, List.take_zero, List.cons_append, List.nil_append, List.append_nil, List.length_cons, List.length_nil, List.drop_nil, List.size_toArray, Nat.reduceAdd, Nat.reduceLeDiff, Nat.reduceBEq, Nat.zero_add, Nat.le_refl, decide_true, mkV, List.headD_cons, cellsV, w_fldV, w_ext, w_fldP, List.getElem?_toArray, List.getElem?_cons_zero, List.getElem?_cons_succ, beq_self_eq_true, selV]
        exact hK _ _ ⟨rfl, jb_d (by omega)⟩
      rintro s H1 ⟨rfl, rfl⟩
      try simp only [sv_cons, sv_cons1, sc_cons, sc_cons1, asB_bool, ifB_true, ifB_false, un_not, bin_lss, bin_leq, bin_gtr, bin_geq, bin_eql, bin_neq, bin_add, bin_sub, bin_mul, ok_int, ok_bool, ok_slice, ok_str, ok_ptr, ok_map, ok_func, ok_iface, ok_nil, List.all_cons, List.all_nil, Bool.and_true, Bool.true_and, seg, setSeg, List.drop_succ_cons, List.drop_zero, List.take_succ_cons, List.take_zero, List.cons_append, List.nil_append, List.append_nil, List.length_cons, List.length_nil, List.drop_nil, List.size_toArray, Nat.reduceAdd, Nat.reduceLeDiff, Nat.reduceBEq, Nat.zero_add, Nat.le_refl, decide_true, mkV, List.headD_cons, cellsV, w_fldV, w_ext, w_fldP, List.getElem?_toArray, List.getElem?_cons_zero, List.getElem?_cons_succ, beq_self_eq_true, selV]
      refine ifD_of (fun hc => ?_) (fun hc => ?_)
      · rw [if_pos (List.any_eq_true.2 ⟨l[i], List.getElem_mem hlt, decide_eq_true hc⟩)] at hQ; exact hQ
      · rw [wrap_i64 (by unfold i64; omega)]
        refine hK _ _ hlt ⟨rfl, by simp, fun n hn => ?_⟩
        rw [List.take_succ_eq_append_getElem hlt, List.mem_append, List.mem_singleton] at hn
        rcases hn with hn | rfl
        · exact hno n hn
        · exact hc
    · rw [List.take_of_length_le (by omega)] at hno
      rw [if_neg (by rw [List.any_eq_true]; rintro ⟨n, hn, hc⟩; exact hno n hn (of_decide_eq_true hc))] at hQ
      exact hQ

theorem c_geo_down_1 {a2 a3 : Nat} {h n : Int} (hh : 1 ≤ h ∧ h ≤ 6) (hn : 0 ≤ n ∧ n < many h) :
    IterC Try.prog (.func (.func fn_geo_down_1) #[] #[.pointer (some ⟨a2, 0, none⟩), .pointer (some ⟨a3, 0, none⟩)]) (h.toNat + 1) (fun i m H a => ∃ b, (wayL h n)[i]? = some b ∧ a = [.int .i64 (i : Int), .int .i64 b])
      (fun H => Bx H a2 [.int .i64 h] ∧ Bx H a3 [.int .i64 n]) := by
  intro yv I E H Q hG hE hS hSE hsz h0 hy hQ
  apply C_geo_down_1_of
  unfold S_geo_down_1
  have hp := pow_le64 (h := h.toNat) (by omega)
  have hmn := many_nat (h := h)
  refine loop_up (h.toNat + 1) (fun i st H' => I i H' ∧ st = [[.int .i64 (i : Int)]]) ⟨h0, rfl⟩ ?_
  rintro i st H' K hi ⟨hI, rfl⟩ hK
  obtain ⟨h2, h3⟩ := hS _ _ hI
  refine join_of (fun s H1 => ∃ c : Bool, s = [[.bool c]] ∧ (c = true → i < h.toNat + 1 ∧ I (i + 1) H1) ∧ (c = false → I (h.toNat + 1) H1 ∨ E H1)) (fun K hK => ?_) ?_
  · try simp only [sv_cons, sv_cons1, sc_cons, sc_cons1, asB_bool, ifB_true, ifB_false, un_not, bin_lss, bin_leq, bin_gtr, bin_geq, bin_eql, bin_neq, bin_add, bin_sub, bin_mul, ok_int, ok_bool, ok_slice, ok_str, ok_ptr, ok_map, ok_func, ok_iface, ok_nil, List.all_cons, List.all_nil, Bool.and_true, Bool.true_and, seg, setSeg, List.drop_succ_cons, List.drop_zero, List.take_succ_cons, List.take_zero, List.cons_append, List.nil_append, List.append_nil, List.length_cons, List.length_nil, List.drop_nil, List.size_toArray, Nat.reduceAdd, Nat.reduceLeDiff, Nat.reduceBEq, Nat.zero_add, Nat.le_refl, decide_true, mkV, List.headD_cons, cellsV, w_fldV, w_ext, w_fldP, List.getElem?_toArray, List.getElem?_cons_zero, List.getElem?_cons_succ, beq_self_eq_true, selV]
    refine h2.load rfl ?_
    try simp only [sv_cons, sv_cons1, sc_cons, sc_cons1, asB_bool, ifB_true, ifB_false, un_not, bin_lss, bin_leq, bin_gtr, bin_geq, bin_eql, bin_neq, bin_add, bin_sub, bin_mul, ok_int, ok_bool, ok_slice, ok_str, ok_ptr, ok_map, ok_func, ok_iface, ok_nil, List.all_cons, List.all_nil, Bool.and_true, Bool.true_and, seg, setSeg, List.drop_succ_cons, List.drop_zero, List.take_succ_cons, List.take_zero, List.cons_append, List.nil_append, List.append_nil, List.length_cons, List.length_nil, List.drop_nil, List.size_toArray, Nat.reduceAdd, Nat.reduceLeDiff, Nat.reduceBEq, Nat.zero_add, Nat.le_refl, decide_true, mkV, List.headD_cons, cellsV, w_fldV, w_ext, w_fldP, List.getElem?_toArray, List.getElem?_cons_zero, List.getElem?_cons_succ, beq_self_eq_true, selV]
    have e2 : h = ((h.toNat : Nat) : Int) := (Int.toNat_of_nonneg (by omega)).symm
    have e3 : n = ((n.toNat : Nat) : Int) := (Int.toNat_of_nonneg (by omega)).symm
    refine ifD_of (fun hle => ?_) (fun hgt => ⟨h2.load rfl rfl, hK _ _ ⟨false, rfl, (fun h0 => by cases h0), fun _ => Or.inl ?_⟩⟩)
    · refine h2.load rfl ?_
      have hb := wayN_bound (h := h.toNat) (n := n.toNat) (i := i) (by omega) (by omega)
      have hb2 := pow_le64 (h := i) (by omega)
      try simp only [sv_cons, sv_cons1, sc_cons, sc_cons1, asB_bool, ifB_true, ifB_false, un_not, bin_lss, bin_leq, bin_gtr, bin_geq, bin_eql, bin_neq, bin_add, bin_sub, bin_mul, ok_int, ok_bool, ok_slice, ok_str, ok_ptr, ok_map, ok_func, ok_iface, ok_nil, List.all_cons, List.all_nil, Bool.and_true, Bool.true_and, seg, setSeg, List.drop_succ_cons, List.drop_zero, List.take_succ_cons, List.take_zero, List.cons_append, List.nil_append, List.append_nil, List.length_cons, List.length_nil, List.drop_nil, List.size_toArray, Nat.reduceAdd, Nat.reduceLeDiff, Nat.reduceBEq, Nat.zero_add, Nat.le_refl, decide_true, mkV, List.headD_cons, cellsV, w_fldV, w_ext, w_fldP, List.getElem?_toArray, List.getElem?_cons_zero, List.getElem?_cons_succ, beq_self_eq_true, selV]
      rw [show (.int .i64 h : Value) = .int .i64 ((h.toNat : Nat) : Int) by rw [← e2], show (.int .i64 1 : Value) = .int .i64 ((1 : Nat) : Int) from rfl, w_shlN (by show h.toNat < 64; omega) (by show 1 * 2 ^ h.toNat < 2 ^ 63; omega)]
      refine h3.load rfl ?_
      try simp only [sv_cons, sv_cons1, sc_cons, sc_cons1, asB_bool, ifB_true, ifB_false, un_not, bin_lss, bin_leq, bin_gtr, bin_geq, bin_eql, bin_neq, bin_add, bin_sub, bin_mul, ok_int, ok_bool, ok_slice, ok_str, ok_ptr, ok_map, ok_func, ok_iface, ok_nil, List.all_cons, List.all_nil, Bool.and_true, Bool.true_and, seg, setSeg, List.drop_succ_cons, List.drop_zero, List.take_succ_cons, List.take_zero, List.cons_append, List.nil_append, List.append_nil, List.length_cons, List.length_nil, List.drop_nil, List.size_toArray, Nat.reduceAdd, Nat.reduceLeDiff, Nat.reduceBEq, Nat.zero_add, Nat.le_refl, decide_true, mkV, List.headD_cons, cellsV, w_fldV, w_ext, w_fldP, List.getElem?_toArray, List.getElem?_cons_zero, List.getElem?_cons_succ, beq_self_eq_true, selV]
      rw [show (.int .i64 n : Value) = .int .i64 ((n.toNat : Nat) : Int) by rw [← e3], w_or (by show 1 * 2 ^ h.toNat < 2 ^ 63; omega) (by show n.toNat < 2 ^ 63; omega), Nat.one_mul]
      refine h2.load rfl ?_
      try simp only [sv_cons, sv_cons1, sc_cons, sc_cons1, asB_bool, ifB_true, ifB_false, un_not, bin_lss, bin_leq, bin_gtr, bin_geq, bin_eql, bin_neq, bin_add, bin_sub, bin_mul, ok_int, ok_bool, ok_slice, ok_str, ok_ptr, ok_map, ok_func, ok_iface, ok_nil, List.all_cons, List.all_nil, Bool.and_true, Bool.true_and, seg, setSeg, List.drop_succ_cons, List.drop_zero, List.take_succ_cons, List.take_zero, List.cons_append, List.nil_append, List.append_nil, List.length_cons, List.length_nil, List.drop_nil, List.size_toArray, Nat.reduceAdd, Nat.reduceLeDiff, Nat.reduceBEq, Nat.zero_add, Nat.le_refl, decide_true, mkV, List.headD_cons, cellsV, w_fldV, w_ext, w_fldP, List.getElem?_toArray, List.getElem?_cons_zero, List.getElem?_cons_succ, beq_self_eq_true, selV]
      have eor : 2 ^ h.toNat ||| n.toNat = 2 ^ h.toNat + n.toNat := by
        have := Nat.two_pow_add_eq_or_of_lt (i := h.toNat) (b := n.toNat) (by omega) 1
        rw [Nat.mul_one] at this
        exact this.symm
      rw [eor, wrap_i64 (by unfold i64; omega), show h - (i : Int) = ((h.toNat - i : Nat) : Int) by omega, w_shrN (by show h.toNat - i < 64; omega)]
      refine hy i H' _ _ (by omega) hI ⟨_, wayL_get (by omega), rfl⟩ (fun H2 hI2 => ?_) (fun H2 hE2 => ?_)
      · obtain ⟨k2, k3⟩ := hS _ _ hI2
        exact ⟨k2.load rfl (by first | rfl | (show (Value.int _ _ = Value.int _ _); rw [← e2]) | (show (Value.int _ _ = Value.int _ _); rw [← e3])), k3.load rfl (by first | rfl | (show (Value.int _ _ = Value.int _ _); rw [← e2]) | (show (Value.int _ _ = Value.int _ _); rw [← e3])), k2.load rfl (by first | rfl | (show (Value.int _ _ = Value.int _ _); rw [← e2]) | (show (Value.int _ _ = Value.int _ _); rw [← e3])), k2.load rfl (by first | rfl | (show (Value.int _ _ = Value.int _ _); rw [← e2]) | (show (Value.int _ _ = Value.int _ _); rw [← e3])), hK _ _ ⟨true, rfl, (fun _ => ⟨by omega, hI2⟩), fun h0 => by cases h0⟩⟩
      · obtain ⟨k2, k3⟩ := hSE _ hE2
        exact ⟨k2.load rfl (by first | rfl | (show (Value.int _ _ = Value.int _ _); rw [← e2]) | (show (Value.int _ _ = Value.int _ _); rw [← e3])), k3.load rfl (by first | rfl | (show (Value.int _ _ = Value.int _ _); rw [← e2]) | (show (Value.int _ _ = Value.int _ _); rw [← e3])), k2.load rfl (by first | rfl | (show (Value.int _ _ = Value.int _ _); rw [← e2]) | (show (Value.int _ _ = Value.int _ _); rw [← e3])), k2.load rfl (by first | rfl | (show (Value.int _ _ = Value.int _ _); rw [← e2]) | (show (Value.int _ _ = Value.int _ _); rw [← e3])), hK _ _ ⟨false, rfl, (fun h0 => by cases h0), fun _ => Or.inr hE2⟩⟩
    · rw [show h.toNat + 1 = i by omega]; exact hI
  rintro s H1 ⟨c, rfl, c1, c2⟩
  try simp only [sv_cons, sv_cons1, sc_cons, sc_cons1, asB_bool, ifB_true, ifB_false, un_not, bin_lss, bin_leq, bin_gtr, bin_geq, bin_eql, bin_neq, bin_add, bin_sub, bin_mul, ok_int, ok_bool, ok_slice, ok_str, ok_ptr, ok_map, ok_func, ok_iface, ok_nil, List.all_cons, List.all_nil, Bool.and_true, Bool.true_and, seg, setSeg, List.drop_succ_cons, List.drop_zero, List.take_succ_cons, List.take_zero, List.cons_append, List.nil_append, List.append_nil, List.length_cons, List.length_nil, List.drop_nil, List.size_toArray, Nat.reduceAdd, Nat.reduceLeDiff, Nat.reduceBEq, Nat.zero_add, Nat.le_refl, decide_true, mkV, List.headD_cons, cellsV, w_fldV, w_ext, w_fldP, List.getElem?_toArray, List.getElem?_cons_zero, List.getElem?_cons_succ, beq_self_eq_true, selV]
  refine ifB_of (fun hc => ?_) (fun hc => hQ _ _ (c2 hc))
  obtain ⟨c3, c4⟩ := c1 hc
  rw [wrap_i64 (by unfold i64; omega)]
  exact hK _ _ c3 ⟨c4, by simp⟩

theorem c_geo_Path {h n : Int} (hQ : ∀ u H', Sl (rI .i64) H' (fun y => H.size ≤ y) u (if leafE h n = 0 then wayL h n else []) → G H H' → Q (tup2 u (.int .i64 (leafE h n))) H') (hn : i64 n) :
    callV Try.prog (fnV fn_geo_Path) [.int .i64 h, .int .i64 n] H Q := by
  apply S_geo_Path_of
  unfold S_geo_Path
  refine newC_bx fun H1 h4 g1 s1 => ?_
  refine bld_I (q := .i64) [n] (fun x hx => by simp at hx; subst hx; exact wrap_i64 hn) rfl fun t H2 ht g2 s2 => c_geo_asked (ht.slF (A' := fun _ => True) fun _ _ => trivial) (by simp) ?_
  have h4 := h4.g g2
  have ea : askedE h [n] = leafE h n := by unfold askedE leafE; simp
  have hl := h4.lt
  rw [ea]
  try simp only [sv_cons, sv_cons1, sc_cons, sc_cons1, asB_bool, ifB_true, ifB_false, un_not, bin_lss, bin_leq, bin_gtr, bin_geq, bin_eql, bin_neq, bin_add, bin_sub, bin_mul, ok_int, ok_bool, ok_slice, ok_str, ok_ptr, ok_map, ok_func, ok_iface, ok_nil, List.all_cons, List.all_nil, Bool.and_true, Bool.true_and, seg, setSeg, List.drop_succ_cons, List.drop_zero, List.take_succ_cons, List.take_zero, List.cons_append, List.nil_append, List.append_nil, List.length_cons, List.length_nil, List.drop_nil, List.size_toArray, Nat.reduceAdd, Nat.reduceLeDiff, Nat.reduceBEq, Nat.zero_add, Nat.le_refl, decide_true, mkV, List.headD_cons, cellsV, w_fldV, w_ext, w_fldP, List.getElem?_toArray, List.getElem?_cons_zero, List.getElem?_cons_succ, beq_self_eq_true, selV]
  refine ifD_of (fun he => ?_) (fun he => ?_)
  · refine h4.store rfl fun H3 h4 f3 s3 => h4.load rfl ?_
    have : leafE h n = 2 := by
      unfold leafE at he ⊢
      split
      · rfl
      · rename_i h1; rw [if_neg h1] at he; split
        · rfl
        · rename_i h2; rw [if_neg h2] at he; exact absurd rfl he
    have := hQ (.slice none 0 0) H3 (by rw [if_neg he]; exact Sl.nil _ _ _ _ _) ((g1.trans g2).then f3 fun y hy => by omega)
    exact this
  have he := Classical.not_not.1 he
  rw [if_pos he, he] at hQ
  have hok : (1 ≤ h ∧ h ≤ 6) ∧ 0 ≤ n ∧ n < many h := by
    unfold leafE at he
    split at he
    · cases he
    · rename_i h1
      split at he
      · cases he
      · exact ⟨highE_ok.1 (Classical.not_not.1 h1), by omega, by omega⟩
  apply S_geo_down_of
  unfold S_geo_down
  try simp only [sv_cons, sv_cons1, sc_cons, sc_cons1, asB_bool, ifB_true, ifB_false, un_not, bin_lss, bin_leq, bin_gtr, bin_geq, bin_eql, bin_neq, bin_add, bin_sub, bin_mul, ok_int, ok_bool, ok_slice, ok_str, ok_ptr, ok_map, ok_func, ok_iface, ok_nil, List.all_cons, List.all_nil, Bool.and_true, Bool.true_and, seg, setSeg, List.drop_succ_cons, List.drop_zero, List.take_succ_cons, List.take_zero, List.cons_append, List.nil_append, List.append_nil, List.length_cons, List.length_nil, List.drop_nil, List.size_toArray, Nat.reduceAdd, Nat.reduceLeDiff, Nat.reduceBEq, Nat.zero_add, Nat.le_refl, decide_true, mkV, List.headD_cons, cellsV, w_fldV, w_ext, w_fldP, List.getElem?_toArray, List.getElem?_cons_zero, List.getElem?_cons_succ, beq_self_eq_true, selV]
  refine newC_bx fun H3 hb2 g3 s3 => newC_bx fun H4 hb3 g4 s4 => ?_
  have hb2 := hb2.g g4
  have h4 := (h4.g g3).g g4
  have g := ((g1.trans g2).trans g3).trans g4
  have hH : H.size = H.size := rfl
  refine range_iter (c_geo_down_1 hok.1 hok.2) trivial (fun i H' => ∃ v b, Ow (rI .i64) H' b (fun _ => False) v ((wayL h n).take i) ∧ b ≠ H.size + 1 ∧ (b = 0 ∨ H4.size + 2 < b) ∧ Bx H' H.size [v] ∧ Bx H' H2.size [.int .i64 h] ∧ Bx H' H3.size [.int .i64 n] ∧ G H H' ∧ H4.size + 2 ≤ H'.size)
    (fun _ _ => False) (fun i H1 H' ⟨v, b, k1, k2, k3, k4, k5, k6, k7, k8⟩ g => ⟨v, b, k1.g g, k2, k3, k4.g g, k5.g g, k6.g g, k7.trans g, by have := g.size; omega⟩) (fun _ _ _ h => h.elim) (fun i H1 H' ⟨v, b, k1, k2, k3, k4, k5, k6, k7, k8⟩ f => ⟨k5.up f (by omega), k6.up f (by omega)⟩) (fun _ _ _ h => h.elim)
    (fun i H' ⟨v, b, k1, k2, k3, k4, k5, k6, k7, k8⟩ => k8) (fun _ _ h => h.elim) (fun H' g' s' => ⟨.slice none 0 0, 0, by simpa using Ow.nil _ _ _, by omega, .inl rfl, h4.g g', hb2.g g', hb3.g g', g.trans g', by omega⟩) ?_ ?_ (fun _ _ h => h.elim)
  · rintro i H1 H' a K hi ⟨v, b, k1, k2, k3, k4, k5, k6, k7, k8⟩ ⟨bk, hbk, rfl⟩ f sz ht hK _
    unfold arg2
    try simp only [sv_cons, sv_cons1, sc_cons, sc_cons1, asB_bool, ifB_true, ifB_false, un_not, bin_lss, bin_leq, bin_gtr, bin_geq, bin_eql, bin_neq, bin_add, bin_sub, bin_mul, ok_int, ok_bool, ok_slice, ok_str, ok_ptr, ok_map, ok_func, ok_iface, ok_nil, List.all_cons, List.all_nil, Bool.and_true, Bool.true_and, seg, setSeg, List.drop_succ_cons, List.drop_zero, List.take_succ_cons, List.take_zero, List.cons_append, List.nil_append, List.append_nil, List.length_cons, List.length_nil, List.drop_nil, List.size_toArray, Nat.reduceAdd, Nat.reduceLeDiff, Nat.reduceBEq, Nat.zero_add, Nat.le_refl, decide_true, mkV, List.headD_cons, cellsV, w_fldV, w_ext, w_fldP, List.getElem?_toArray, List.getElem?_cons_zero, List.getElem?_cons_succ, beq_self_eq_true, selV]
    refine k4.load rfl ?_
    try simp only [sv_cons, sv_cons1, sc_cons, sc_cons1, asB_bool, ifB_true, ifB_false, un_not, bin_lss, bin_leq, bin_gtr, bin_geq, bin_eql, bin_neq, bin_add, bin_sub, bin_mul, ok_int, ok_bool, ok_slice, ok_str, ok_ptr, ok_map, ok_func, ok_iface, ok_nil, List.all_cons, List.all_nil, Bool.and_true, Bool.true_and, seg, setSeg, List.drop_succ_cons, List.drop_zero, List.take_succ_cons, List.take_zero, List.cons_append, List.nil_append, List.append_nil, List.length_cons, List.length_nil, List.drop_nil, List.size_toArray, Nat.reduceAdd, Nat.reduceLeDiff, Nat.reduceBEq, Nat.zero_add, Nat.le_refl, decide_true, mkV, List.headD_cons, cellsV, w_fldV, w_ext, w_fldP, List.getElem?_toArray, List.getElem?_cons_zero, List.getElem?_cons_succ, beq_self_eq_true, selV]
    have hlt := (List.getElem?_eq_some_iff.1 hbk).1
    have hbd : i64 bk := by
      rw [wayL_get (by omega)] at hbk
      cases hbk
      have hmn := many_nat (h := h)
      have hp := pow_le64 (h := h.toNat) (by omega)
      have := wayN_bound (h := h.toNat) (n := n.toNat) (i := i) (by omega) (by omega)
      have hb2 := pow_le64 (h := i) (by omega)
      rw [Nat.pow_succ] at this
      unfold i64; omega
    have hil : ((wayL h n).take i).length = i := by rw [List.length_take]; omega
    refine k1.push (A' := fun _ => False) (x := bk) (vrep_I (wrap_i64 hbd)) rfl (by decide) (fun _ => rfl) rfl rfl (fun y hy _ => by simp at hy) (by rw [hil]; omega) (by rw [hil]; omega) fun u H2 b' ho f2 hb' _ => ?_
    have hbl := k1.lt
    refine (k4.up f2 (by omega)).store ho.okcv fun H3' kb f3 s3' => hK _ ⟨u, b', ?_, by omega, by omega, kb, (k5.up f2 (by omega)).up f3 (by omega), (k6.up f2 (by omega)).up f3 (by omega), (k7.then f2 fun y hy => by omega).then f3 fun y hy => by omega, by have := f2.size; omega⟩ (fr_at (fr_at ht f2 (by omega)) f3 (by omega))
    rw [show (wayL h n).take (i + 1) = (wayL h n).take i ++ [bk] by rw [List.take_add_one, hbk]; rfl]
    exact (ho.mono (A' := fun _ => False) fun y hy _ => by simp at hy).upF f3 fun k hk => by omega
  · rintro H' ⟨v, b, k1, k2, k3, k4, k5, k6, k7, k8⟩
    rw [List.take_of_length_le (by rw [wayL_len]; exact Nat.le_refl _)] at k1
    refine k4.load rfl ?_
    try simp only [sv_cons, sv_cons1, sc_cons, sc_cons1, asB_bool, ifB_true, ifB_false, un_not, bin_lss, bin_leq, bin_gtr, bin_geq, bin_eql, bin_neq, bin_add, bin_sub, bin_mul, ok_int, ok_bool, ok_slice, ok_str, ok_ptr, ok_map, ok_func, ok_iface, ok_nil, List.all_cons, List.all_nil, Bool.and_true, Bool.true_and, seg, setSeg, List.drop_succ_cons, List.drop_zero, List.take_succ_cons, List.take_zero, List.cons_append, List.nil_append, List.append_nil, List.length_cons, List.length_nil, List.drop_nil, List.size_toArray, Nat.reduceAdd, Nat.reduceLeDiff, Nat.reduceBEq, Nat.zero_add, Nat.le_refl, decide_true, mkV, List.headD_cons, cellsV, w_fldV, w_ext, w_fldP, List.getElem?_toArray, List.getElem?_cons_zero, List.getElem?_cons_succ, beq_self_eq_true, selV]
    refine k4.store k1.okcv fun H5 k4 f5 s5 => k4.load rfl ?_
    try simp only [sv_cons, sv_cons1, sc_cons, sc_cons1, asB_bool, ifB_true, ifB_false, un_not, bin_lss, bin_leq, bin_gtr, bin_geq, bin_eql, bin_neq, bin_add, bin_sub, bin_mul, ok_int, ok_bool, ok_slice, ok_str, ok_ptr, ok_map, ok_func, ok_iface, ok_nil, List.all_cons, List.all_nil, Bool.and_true, Bool.true_and, seg, setSeg, List.drop_succ_cons, List.drop_zero, List.take_succ_cons, List.take_zero, List.cons_append, List.nil_append, List.append_nil, List.length_cons, List.length_nil, List.drop_nil, List.size_toArray, Nat.reduceAdd, Nat.reduceLeDiff, Nat.reduceBEq, Nat.zero_add, Nat.le_refl, decide_true, mkV, List.headD_cons, cellsV, w_fldV, w_ext, w_fldP, List.getElem?_toArray, List.getElem?_cons_zero, List.getElem?_cons_succ, beq_self_eq_true, selV]
    have := hQ v H5 ((k1.upF f5 fun k hk => by omega).slF fun k hk => by have := g.size; omega) (k7.then f5 fun y hy => by omega)
    exact this

/-! ### Leaves turned round -/

theorem c_geo_Reverse_1 {a3 a7 a2 : Nat} {h : Int} {n i : Nat} (hh : 1 ≤ h ∧ h ≤ 6) (hi : i < h.toNat) (hn : n < 18446744073709551616) (h2 : Bx H a2 [.int .i64 h]) (h3 : Bx H a3 [.int .u64 (n : Int)]) (h7 : Bx H a7 [.int .i64 (tp h.toNat n i : Nat)])
    (hQ : ∀ H', Bx H' a7 [.int .i64 (tp h.toNat n (i + 1) : Nat)] → Fr (fun y => y ≠ a7) H H' → H'.size = H.size → Q (.tuple #[]) H') :
    callV Try.prog (.func (.func fn_geo_Reverse_1) #[] #[.pointer (some ⟨a7, 0, none⟩), .pointer (some ⟨a3, 0, none⟩), .pointer (some ⟨a2, 0, none⟩)]) [.int .i64 (i : Int)] H Q := by
  apply C_geo_Reverse_1_of
  unfold S_geo_Reverse_1
  have hp := pow_le64 (h := h.toNat) (by omega)
  have hl := tp_lt (h := h.toNat) (n := n) (i := i) (by omega) (by omega)
  have hl2 := tp_lt (h := h.toNat) (n := n) (i := i + 1) (by omega) (by omega)
  refine h7.load rfl (h3.load rfl ?_)
  try simp only [sv_cons, sv_cons1, sc_cons, sc_cons1, asB_bool, ifB_true, ifB_false, un_not, bin_lss, bin_leq, bin_gtr, bin_geq, bin_eql, bin_neq, bin_add, bin_sub, bin_mul, ok_int, ok_bool, ok_slice, ok_str, ok_ptr, ok_map, ok_func, ok_iface, ok_nil, List.all_cons, List.all_nil, Bool.and_true, Bool.true_and, seg, setSeg, List.drop_succ_cons, List.drop_zero, List.take_succ_cons, List.take_zero, List.cons_append, List.nil_append, List.append_nil, List.length_cons, List.length_nil, List.drop_nil, List.size_toArray, Nat.reduceAdd, Nat.reduceLeDiff, Nat.reduceBEq, Nat.zero_add, Nat.le_refl, decide_true, mkV, List.headD_cons, cellsV, w_fldV, w_ext, w_fldP, List.getElem?_toArray, List.getElem?_cons_zero, List.getElem?_cons_succ, beq_self_eq_true, selV]
  rw [w_shrN (by show i < 64; omega), show (.int .u64 1 : Value) = .int .u64 ((1 : Nat) : Int) from rfl, w_and (by show n / 2 ^ i < 2 ^ 64; exact Nat.lt_of_le_of_lt (Nat.div_le_self _ _) (by omega)) (by show 1 < 2 ^ 64; omega)]
  have e1 : n / 2 ^ i &&& 1 = n / 2 ^ i % 2 := Nat.and_one_is_mod _
  rw [e1, cv_nat (by show _ < 2 ^ 63; exact Nat.lt_of_lt_of_le (Nat.mod_lt _ (by decide)) (by decide))]
  refine h2.load rfl ?_
  try simp only [sv_cons, sv_cons1, sc_cons, sc_cons1, asB_bool, ifB_true, ifB_false, un_not, bin_lss, bin_leq, bin_gtr, bin_geq, bin_eql, bin_neq, bin_add, bin_sub, bin_mul, ok_int, ok_bool, ok_slice, ok_str, ok_ptr, ok_map, ok_func, ok_iface, ok_nil, List.all_cons, List.all_nil, Bool.and_true, Bool.true_and, seg, setSeg, List.drop_succ_cons, List.drop_zero, List.take_succ_cons, List.take_zero, List.cons_append, List.nil_append, List.append_nil, List.length_cons, List.length_nil, List.drop_nil, List.size_toArray, Nat.reduceAdd, Nat.reduceLeDiff, Nat.reduceBEq, Nat.zero_add, Nat.le_refl, decide_true, mkV, List.headD_cons, cellsV, w_fldV, w_ext, w_fldP, List.getElem?_toArray, List.getElem?_cons_zero, List.getElem?_cons_succ, beq_self_eq_true, selV]
  rw [wrap_i64 (x := h - 1) (by unfold i64; omega), wrap_i64 (x := h - 1 - (i : Int)) (by unfold i64; omega), show h - 1 - (i : Int) = ((h.toNat - 1 - i : Nat) : Int) by omega]
  have hbit : n / 2 ^ i % 2 * 2 ^ (h.toNat - 1 - i) < 2 ^ 63 := by
    have h5 := pow_le64 (h := h.toNat - 1 - i) (by omega)
    have h6 : n / 2 ^ i % 2 ≤ 1 := by have := Nat.mod_lt (n / 2 ^ i) (show 0 < 2 by omega); omega
    have h7 := Nat.mul_le_mul h6 h5
    exact Nat.lt_of_le_of_lt h7 (by decide)
  rw [w_shlN (by show h.toNat - 1 - i < 64; omega) hbit, w_or (by show tp _ _ _ < 2 ^ 63; omega) hbit]
  refine h7.store rfl fun H1 k7 f1 s1 => hQ H1 k7 f1 s1

theorem c_geo_Reverse {h : Int} {n : Nat} (hn : n < 18446744073709551616) (hQ : ∀ H', G H H' → Q (tup2 (.int .i64 (if highE h = 0 then (turnN h.toNat n : Nat) else 0)) (.int .i64 (highE h))) H') :
    callV Try.prog (fnV fn_geo_Reverse) [.int .i64 h, .int .u64 (n : Int)] H Q := by
  apply S_geo_Reverse_of
  unfold S_geo_Reverse
  try simp only [sv_cons, sv_cons1, sc_cons, sc_cons1, asB_bool, ifB_true, ifB_false, un_not, bin_lss, bin_leq, bin_gtr, bin_geq, bin_eql, bin_neq, bin_add, bin_sub, bin_mul, ok_int, ok_bool, ok_slice, ok_str, ok_ptr, ok_map, ok_func, ok_iface, ok_nil, List.all_cons, List.all_nil, Bool.and_true, Bool.true_and, seg, setSeg, List.drop_succ_cons, List.drop_zero, List.take_succ_cons, List.take_zero, List.cons_append, List.nil_append, List.append_nil, List.length_cons, List.length_nil, List.drop_nil, List.size_toArray, Nat.reduceAdd, Nat.reduceLeDiff, Nat.reduceBEq, Nat.zero_add, Nat.le_refl, decide_true, mkV, List.headD_cons, cellsV, w_fldV, w_ext, w_fldP, List.getElem?_toArray, List.getElem?_cons_zero, List.getElem?_cons_succ, beq_self_eq_true, selV]
  refine newC_bx fun H1 h2 g1 s1 => newC_bx fun H2 h3 g2 s2 => ?_
  have h2 := h2.g g2
  refine h2.load rfl ?_
  try simp only [sv_cons, sv_cons1, sc_cons, sc_cons1, asB_bool, ifB_true, ifB_false, un_not, bin_lss, bin_leq, bin_gtr, bin_geq, bin_eql, bin_neq, bin_add, bin_sub, bin_mul, ok_int, ok_bool, ok_slice, ok_str, ok_ptr, ok_map, ok_func, ok_iface, ok_nil, List.all_cons, List.all_nil, Bool.and_true, Bool.true_and, seg, setSeg, List.drop_succ_cons, List.drop_zero, List.take_succ_cons, List.take_zero, List.cons_append, List.nil_append, List.append_nil, List.length_cons, List.length_nil, List.drop_nil, List.size_toArray, Nat.reduceAdd, Nat.reduceLeDiff, Nat.reduceBEq, Nat.zero_add, Nat.le_refl, decide_true, mkV, List.headD_cons, cellsV, w_fldV, w_ext, w_fldP, List.getElem?_toArray, List.getElem?_cons_zero, List.getElem?_cons_succ, beq_self_eq_true, selV]
  refine c_geo_asked0 ?_
  try simp only [sv_cons, sv_cons1, sc_cons, sc_cons1, asB_bool, ifB_true, ifB_false, un_not, bin_lss, bin_leq, bin_gtr, bin_geq, bin_eql, bin_neq, bin_add, bin_sub, bin_mul, ok_int, ok_bool, ok_slice, ok_str, ok_ptr, ok_map, ok_func, ok_iface, ok_nil, List.all_cons, List.all_nil, Bool.and_true, Bool.true_and, seg, setSeg, List.drop_succ_cons, List.drop_zero, List.take_succ_cons, List.take_zero, List.cons_append, List.nil_append, List.append_nil, List.length_cons, List.length_nil, List.drop_nil, List.size_toArray, Nat.reduceAdd, Nat.reduceLeDiff, Nat.reduceBEq, Nat.zero_add, Nat.le_refl, decide_true, mkV, List.headD_cons, cellsV, w_fldV, w_ext, w_fldP, List.getElem?_toArray, List.getElem?_cons_zero, List.getElem?_cons_succ, beq_self_eq_true, selV]
  refine ifD_of (fun he => ?_) (fun he => ?_)
  · have := hQ H2 (g1.trans g2)
    rw [if_neg he] at this
    exact this
  have he := Classical.not_not.1 he
  have hh := highE_ok.1 he
  rw [if_pos he, he] at hQ
  refine newC_bx fun H3 h7 g3 s3 => h7.store rfl fun H4 h7 f4 s4 => ?_
  have h2 := (h2.g g3).up f4 (show H.size ≠ H2.size by omega)
  have h3 := (h3.g g3).up f4 (show H1.size ≠ H2.size by omega)
  refine h2.load rfl ?_
  try simp only [sv_cons, sv_cons1, sc_cons, sc_cons1, asB_bool, ifB_true, ifB_false, un_not, bin_lss, bin_leq, bin_gtr, bin_geq, bin_eql, bin_neq, bin_add, bin_sub, bin_mul, ok_int, ok_bool, ok_slice, ok_str, ok_ptr, ok_map, ok_func, ok_iface, ok_nil, List.all_cons, List.all_nil, Bool.and_true, Bool.true_and, seg, setSeg, List.drop_succ_cons, List.drop_zero, List.take_succ_cons, List.take_zero, List.cons_append, List.nil_append, List.append_nil, List.length_cons, List.length_nil, List.drop_nil, List.size_toArray, Nat.reduceAdd, Nat.reduceLeDiff, Nat.reduceBEq, Nat.zero_add, Nat.le_refl, decide_true, mkV, List.headD_cons, cellsV, w_fldV, w_ext, w_fldP, List.getElem?_toArray, List.getElem?_cons_zero, List.getElem?_cons_succ, beq_self_eq_true, selV]
  have g4 : G H H4 := ((g1.trans g2).trans g3).then f4 fun y hy => by omega
  refine loop_up h.toNat (fun i st H' => G H H' ∧ Bx H' H.size [.int .i64 h] ∧ Bx H' H1.size [.int .u64 (n : Int)] ∧ Bx H' H2.size [.int .i64 (tp h.toNat n i : Nat)] ∧ st = [[.int .i64 (i : Int)]]) ⟨g4, h2, h3, h7, rfl⟩ ?_
  rintro i st H' K hi ⟨g, k2, k3, k7, rfl⟩ hK
  try simp only [sv_cons, sv_cons1, sc_cons, sc_cons1, asB_bool, ifB_true, ifB_false, un_not, bin_lss, bin_leq, bin_gtr, bin_geq, bin_eql, bin_neq, bin_add, bin_sub, bin_mul, ok_int, ok_bool, ok_slice, ok_str, ok_ptr, ok_map, ok_func, ok_iface, ok_nil, List.all_cons, List.all_nil, Bool.and_true, Bool.true_and, seg, setSeg, List.drop_succ_cons, List.drop_zero, List.take_succ_cons, List.take_zero, List.cons_append, List.nil_append, List.append_nil, List.length_cons, List.length_nil, List.drop_nil, List.size_toArray, Nat.reduceAdd, Nat.reduceLeDiff, Nat.reduceBEq, Nat.zero_add, Nat.le_refl, decide_true, mkV, List.headD_cons, cellsV, w_fldV, w_ext, w_fldP, List.getElem?_toArray, List.getElem?_cons_zero, List.getElem?_cons_succ, beq_self_eq_true, selV]
  refine ifD_of (fun hlt => ?_) (fun hge => ?_)
  · refine c_geo_Reverse_1 hh (by omega) hn k2 k3 k7 fun H5 k7 f5 s5 => ?_
    try simp only [sv_cons, sv_cons1, sc_cons, sc_cons1, asB_bool, ifB_true, ifB_false, un_not, bin_lss, bin_leq, bin_gtr, bin_geq, bin_eql, bin_neq, bin_add, bin_sub, bin_mul, ok_int, ok_bool, ok_slice, ok_str, ok_ptr, ok_map, ok_func, ok_iface, ok_nil, List.all_cons, List.all_nil, Bool.and_true, Bool.true_and, seg, setSeg, List.drop_succ_cons, List.drop_zero, List.take_succ_cons, List.take_zero, List.cons_append, List.nil_append, List.append_nil, List.length_cons, List.length_nil, List.drop_nil, List.size_toArray, Nat.reduceAdd, Nat.reduceLeDiff, Nat.reduceBEq, Nat.zero_add, Nat.le_refl, decide_true, mkV, List.headD_cons, cellsV, w_fldV, w_ext, w_fldP, List.getElem?_toArray, List.getElem?_cons_zero, List.getElem?_cons_succ, beq_self_eq_true, selV]
    rw [wrap_i64 (by unfold i64; omega)]
    exact hK _ _ (by omega) ⟨g.then f5 fun y hy => by omega, k2.up f5 (by omega), k3.up f5 (by omega), k7, by simp⟩
  · have e : i = h.toNat := by omega
    subst e
    refine k7.load rfl ?_
    try simp only [sv_cons, sv_cons1, sc_cons, sc_cons1, asB_bool, ifB_true, ifB_false, un_not, bin_lss, bin_leq, bin_gtr, bin_geq, bin_eql, bin_neq, bin_add, bin_sub, bin_mul, ok_int, ok_bool, ok_slice, ok_str, ok_ptr, ok_map, ok_func, ok_iface, ok_nil, List.all_cons, List.all_nil, Bool.and_true, Bool.true_and, seg, setSeg, List.drop_succ_cons, List.drop_zero, List.take_succ_cons, List.take_zero, List.cons_append, List.nil_append, List.append_nil, List.length_cons, List.length_nil, List.drop_nil, List.size_toArray, Nat.reduceAdd, Nat.reduceLeDiff, Nat.reduceBEq, Nat.zero_add, Nat.le_refl, decide_true, mkV, List.headD_cons, cellsV, w_fldV, w_ext, w_fldP, List.getElem?_toArray, List.getElem?_cons_zero, List.getElem?_cons_succ, beq_self_eq_true, selV]
    rw [tp_turn (by omega)]
    exact hQ _ g

theorem c_ref07_Turned {h : Int} {n : Nat} (hh : 1 ≤ h ∧ h ≤ 6) (hn : n < 18446744073709551616) (hQ : Q (.int .i64 (turnN h.toNat n : Nat)) H) : callV Try.prog (fnV fn_ref07_Turned) [.int .i64 h, .int .u64 (n : Int)] H Q := by
  apply S_ref07_Turned_of
  unfold S_ref07_Turned
  refine c_ref07_Many (by omega) ?_
  have hp := pow_le64 (h := h.toNat) (by omega)
  have hp0 := Nat.two_pow_pos h.toNat
  rw [many_nat, cv_nat (by show _ < 2 ^ 64; omega)]
  refine w_rem (by omega) ?_
  rw [← Int.ofNat_tmod, cv_nat (by show _ < 2 ^ 63; have := Nat.mod_lt n hp0; omega)]
  have hm := Nat.mod_lt n hp0
  refine loop_up h.toNat (fun i st H' => H' = H ∧ ∃ l o : Nat, l < 64 ∧ o < 2 ^ i ∧ rv (h.toNat - i) l o = turnN h.toNat n ∧ st = [[.int .i64 (l : Int)], [.int .i64 (o : Int)], [.int .i64 (i : Int)]]) ⟨rfl, n % 2 ^ h.toNat, 0, by omega, by simp, rfl, rfl⟩ ?_
  rintro i st H' K hi ⟨rfl, l, o, hl, ho, hr, rfl⟩ hK
  try simp only [sv_cons, sv_cons1, sc_cons, sc_cons1, asB_bool, ifB_true, ifB_false, un_not, bin_lss, bin_leq, bin_gtr, bin_geq, bin_eql, bin_neq, bin_add, bin_sub, bin_mul, ok_int, ok_bool, ok_slice, ok_str, ok_ptr, ok_map, ok_func, ok_iface, ok_nil, List.all_cons, List.all_nil, Bool.and_true, Bool.true_and, seg, setSeg, List.drop_succ_cons, List.drop_zero, List.take_succ_cons, List.take_zero, List.cons_append, List.nil_append, List.append_nil, List.length_cons, List.length_nil, List.drop_nil, List.size_toArray, Nat.reduceAdd, Nat.reduceLeDiff, Nat.reduceBEq, Nat.zero_add, Nat.le_refl, decide_true, mkV, List.headD_cons, cellsV, w_fldV, w_ext, w_fldP, List.getElem?_toArray, List.getElem?_cons_zero, List.getElem?_cons_succ, beq_self_eq_true, selV]
  refine ifD_of (fun hlt => ?_) (fun hge => ?_)
  · have hpi := pow_le64 (h := i) (by omega)
    rw [wrap_i64 (by unfold i64; omega)]
    refine w_rem (by omega) ?_
    rw [show (2 : Int) = ((2 : Nat) : Int) from rfl, ← Int.ofNat_tmod]
    try simp only [sv_cons, sv_cons1, sc_cons, sc_cons1, asB_bool, ifB_true, ifB_false, un_not, bin_lss, bin_leq, bin_gtr, bin_geq, bin_eql, bin_neq, bin_add, bin_sub, bin_mul, ok_int, ok_bool, ok_slice, ok_str, ok_ptr, ok_map, ok_func, ok_iface, ok_nil, List.all_cons, List.all_nil, Bool.and_true, Bool.true_and, seg, setSeg, List.drop_succ_cons, List.drop_zero, List.take_succ_cons, List.take_zero, List.cons_append, List.nil_append, List.append_nil, List.length_cons, List.length_nil, List.drop_nil, List.size_toArray, Nat.reduceAdd, Nat.reduceLeDiff, Nat.reduceBEq, Nat.zero_add, Nat.le_refl, decide_true, mkV, List.headD_cons, cellsV, w_fldV, w_ext, w_fldP, List.getElem?_toArray, List.getElem?_cons_zero, List.getElem?_cons_succ, beq_self_eq_true, selV]
    rw [wrap_i64 (by unfold i64; omega)]
    refine w_quo (by omega) ?_
    rw [← Int.ofNat_tdiv, wrap_i64 (by unfold i64; omega), wrap_i64 (by unfold i64; omega)]
    refine hK _ _ (by omega) ⟨rfl, l / 2, 2 * o + l % 2, by omega, by rw [Nat.pow_succ]; omega, ?_, by simp⟩
    rw [← hr, show h.toNat - i = (h.toNat - (i + 1)) + 1 by omega]
    rfl
  · rw [show h.toNat - i = 0 by omega] at hr
    unfold rv at hr
    rw [hr]
    exact hQ

theorem c_ref07_Way {h n : Int} (hh : 1 ≤ h ∧ h ≤ 6) (hn : 0 ≤ n ∧ n < many h) (hQ : ∀ u H', Sl (rI .i64) H' (fun y => H.size ≤ y) u (wayL h n) → G H H' → Q u H') : callV Try.prog (fnV fn_ref07_Way) [.int .i64 h, .int .i64 n] H Q := by
  apply S_ref07_Way_of
  unfold S_ref07_Way
  refine c_ref07_Many (by omega) ?_
  have hp := pow_le64 (h := h.toNat) (by omega)
  have hmn := many_nat (h := h)
  try simp only [sv_cons, sv_cons1, sc_cons, sc_cons1, asB_bool, ifB_true, ifB_false, un_not, bin_lss, bin_leq, bin_gtr, bin_geq, bin_eql, bin_neq, bin_add, bin_sub, bin_mul, ok_int, ok_bool, ok_slice, ok_str, ok_ptr, ok_map, ok_func, ok_iface, ok_nil, List.all_cons, List.all_nil, Bool.and_true, Bool.true_and, seg, setSeg, List.drop_succ_cons, List.drop_zero, List.take_succ_cons, List.take_zero, List.cons_append, List.nil_append, List.append_nil, List.length_cons, List.length_nil, List.drop_nil, List.size_toArray, Nat.reduceAdd, Nat.reduceLeDiff, Nat.reduceBEq, Nat.zero_add, Nat.le_refl, decide_true, mkV, List.headD_cons, cellsV, w_fldV, w_ext, w_fldP, List.getElem?_toArray, List.getElem?_cons_zero, List.getElem?_cons_succ, beq_self_eq_true, selV]
  rw [wrap_i64 (by unfold i64; omega), hmn, show ((2 ^ h.toNat : Nat) : Int) + n = ((2 ^ h.toNat + n.toNat : Nat) : Int) by omega]
  -- upwards
  have hdiv : ∀ i, (2 ^ h.toNat + n.toNat) / 2 ^ i / 2 = (2 ^ h.toNat + n.toNat) / 2 ^ (i + 1) := fun i => by rw [Nat.div_div_eq_div_mul, Nat.pow_succ]
  have hzero : ∀ i, (1 ≤ (2 ^ h.toNat + n.toNat) / 2 ^ i ↔ i ≤ h.toNat) := fun i => by
    rw [Nat.le_div_iff_mul_le (Nat.two_pow_pos _), Nat.one_mul]
    constructor
    · intro hle
      rcases Nat.lt_or_ge h.toNat i with h1 | h1
      · have := Nat.pow_le_pow_right (show 1 ≤ 2 by omega) (show h.toNat + 1 ≤ i from h1)
        rw [Nat.pow_succ] at this
        omega
      · exact h1
    · intro hle
      have := Nat.pow_le_pow_right (show 1 ≤ 2 by omega) hle
      omega
  refine loop_up (h.toNat + 1) (fun i st H' => ∃ u, Bd (rI .i64) H H' u ((List.range i).map fun j => (((2 ^ h.toNat + n.toNat) / 2 ^ j : Nat) : Int)) ∧ st = [[u], [.int .i64 ((2 ^ h.toNat + n.toNat) / 2 ^ i : Nat)]]) ⟨_, by simpa using Bd.nil _ (Fr.refl _ H), by simp⟩ ?_
  rintro i st H' K hi ⟨u, hb, rfl⟩ hK
  have hil : ((List.range i).map fun j => (((2 ^ h.toNat + n.toNat) / 2 ^ j : Nat) : Int)).length = i := by simp
  have hle : ∀ j, (2 ^ h.toNat + n.toNat) / 2 ^ j ≤ 128 := fun j => Nat.le_trans (Nat.div_le_self _ _) (by omega)
  try simp only [sv_cons, sv_cons1, sc_cons, sc_cons1, asB_bool, ifB_true, ifB_false, un_not, bin_lss, bin_leq, bin_gtr, bin_geq, bin_eql, bin_neq, bin_add, bin_sub, bin_mul, ok_int, ok_bool, ok_slice, ok_str, ok_ptr, ok_map, ok_func, ok_iface, ok_nil, List.all_cons, List.all_nil, Bool.and_true, Bool.true_and, seg, setSeg, List.drop_succ_cons, List.drop_zero, List.take_succ_cons, List.take_zero, List.cons_append, List.nil_append, List.append_nil, List.length_cons, List.length_nil, List.drop_nil, List.size_toArray, Nat.reduceAdd, Nat.reduceLeDiff, Nat.reduceBEq, Nat.zero_add, Nat.le_refl, decide_true, mkV, List.headD_cons, cellsV, w_fldV, w_ext, w_fldP, List.getElem?_toArray, List.getElem?_cons_zero, List.getElem?_cons_succ, beq_self_eq_true, selV]
  refine ifD_of (fun h1 => ?_) (fun h1 => ?_)
  · have h2 := (hzero i).1 (by omega)
    have h3 := hle i
    refine hb.push (Fr.refl _ _) (A' := fun _ => False) (x := (((2 ^ h.toNat + n.toNat) / 2 ^ i : Nat) : Int)) (vrep_I (wrap_i64 (i64_nat (Nat.le_trans (hle _) (by decide))))) rfl (by decide) (fun _ => rfl) rfl rfl (fun y hy => hy.elim) (by rw [hil]; omega) (by rw [hil]; omega) fun u2 H2 hb2 => ?_
    refine w_quo (by omega) ?_
    rw [show (2 : Int) = ((2 : Nat) : Int) from rfl, ← Int.ofNat_tdiv, hdiv, wrap_i64 (i64_nat (Nat.le_trans (hle _) (by decide)))]
    exact hK _ _ (by omega) ⟨u2, by rw [List.range_succ, List.map_append]; exact hb2, rfl⟩
  · have e : i = h.toNat + 1 := by
      rcases Nat.lt_or_ge h.toNat i with h2 | h2
      · omega
      · exact absurd ((hzero i).2 h2) (by omega)
    subst e
    have hu := hb.sl
    refine hu.len ?_
    try simp only [sv_cons, sv_cons1, sc_cons, sc_cons1, asB_bool, ifB_true, ifB_false, un_not, bin_lss, bin_leq, bin_gtr, bin_geq, bin_eql, bin_neq, bin_add, bin_sub, bin_mul, ok_int, ok_bool, ok_slice, ok_str, ok_ptr, ok_map, ok_func, ok_iface, ok_nil, List.all_cons, List.all_nil, Bool.and_true, Bool.true_and, seg, setSeg, List.drop_succ_cons, List.drop_zero, List.take_succ_cons, List.take_zero, List.cons_append, List.nil_append, List.append_nil, List.length_cons, List.length_nil, List.drop_nil, List.size_toArray, Nat.reduceAdd, Nat.reduceLeDiff, Nat.reduceBEq, Nat.zero_add, Nat.le_refl, decide_true, mkV, List.headD_cons, cellsV, w_fldV, w_ext, w_fldP, List.getElem?_toArray, List.getElem?_cons_zero, List.getElem?_cons_succ, beq_self_eq_true, selV]
    rw [hil, wrap_i64 (by unfold i64; omega), show ((h.toNat + 1 : Nat) : Int) - 1 = (h.toNat : Int) by omega]
    refine loop_up (h.toNat + 1) (fun i st H2 => ∃ v, Bd (rI .i64) H' H2 v ((wayL h n).take i) ∧ st = [[v], [.int .i64 ((h.toNat : Int) - (i : Int))]]) ⟨_, by simpa using Bd.nil _ (Fr.refl _ H'), by simp⟩ ?_
    rintro i st H2 K2 hi ⟨v, hv, rfl⟩ hK2
    have hil2 : ((wayL h n).take i).length = i := by rw [List.length_take, wayL_len]; omega
    try simp only [sv_cons, sv_cons1, sc_cons, sc_cons1, asB_bool, ifB_true, ifB_false, un_not, bin_lss, bin_leq, bin_gtr, bin_geq, bin_eql, bin_neq, bin_add, bin_sub, bin_mul, ok_int, ok_bool, ok_slice, ok_str, ok_ptr, ok_map, ok_func, ok_iface, ok_nil, List.all_cons, List.all_nil, Bool.and_true, Bool.true_and, seg, setSeg, List.drop_succ_cons, List.drop_zero, List.take_succ_cons, List.take_zero, List.cons_append, List.nil_append, List.append_nil, List.length_cons, List.length_nil, List.drop_nil, List.size_toArray, Nat.reduceAdd, Nat.reduceLeDiff, Nat.reduceBEq, Nat.zero_add, Nat.le_refl, decide_true, mkV, List.headD_cons, cellsV, w_fldV, w_ext, w_fldP, List.getElem?_toArray, List.getElem?_cons_zero, List.getElem?_cons_succ, beq_self_eq_true, selV]
    refine ifD_of (fun h1 => ?_) (fun h1 => ?_)
    · have hlt : i ≤ h.toNat := by omega
      have hx : ((List.range (h.toNat + 1)).map fun j => (((2 ^ h.toNat + n.toNat) / 2 ^ j : Nat) : Int))[h.toNat - i]? = some (((2 ^ h.toNat + n.toNat) / 2 ^ (h.toNat - i) : Nat) : Int) := by
        rw [List.getElem?_map, List.getElem?_range (by omega)]; rfl
      rw [show (h.toNat : Int) - (i : Int) = ((h.toNat - i : Nat) : Int) by omega]
      have h3 := hle (h.toNat - i)
      refine (hu.g hv.g).getI hx fun _ => ?_
      refine hv.push (Fr.refl _ _) (A' := fun _ => False) (x := (((2 ^ h.toNat + n.toNat) / 2 ^ (h.toNat - i) : Nat) : Int)) (vrep_I (wrap_i64 (i64_nat (Nat.le_trans (hle _) (by decide))))) rfl (by decide) (fun _ => rfl) rfl rfl (fun y hy => hy.elim) (by rw [hil2]; omega) (by rw [hil2]; omega) fun u2 H2 hb2 => ?_
      try simp only [sv_cons, sv_cons1, sc_cons, sc_cons1, asB_bool, ifB_true, ifB_false, un_not, bin_lss, bin_leq, bin_gtr, bin_geq, bin_eql, bin_neq, bin_add, bin_sub, bin_mul, ok_int, ok_bool, ok_slice, ok_str, ok_ptr, ok_map, ok_func, ok_iface, ok_nil, List.all_cons, List.all_nil, Bool.and_true, Bool.true_and, seg, setSeg, List.drop_succ_cons, List.drop_zero, List.take_succ_cons, List.take_zero, List.cons_append, List.nil_append, List.append_nil, List.length_cons, List.length_nil, List.drop_nil, List.size_toArray, Nat.reduceAdd, Nat.reduceLeDiff, Nat.reduceBEq, Nat.zero_add, Nat.le_refl, decide_true, mkV, List.headD_cons, cellsV, w_fldV, w_ext, w_fldP, List.getElem?_toArray, List.getElem?_cons_zero, List.getElem?_cons_succ, beq_self_eq_true, selV]
      rw [wrap_i64 (by unfold i64; omega)]
      refine hK2 _ _ (by omega) ⟨u2, ?_, by rw [show ((h.toNat - i : Nat) : Int) - 1 = (h.toNat : Int) - ((i + 1 : Nat) : Int) by omega]⟩
      rw [List.take_add_one, wayL_get hlt]
      exact hb2
    · rw [List.take_of_length_le (by rw [wayL_len]; omega)] at hv
      have hg := hb.g.size
      exact hQ v H2 (hv.sl.mono fun y hy _ => by omega) (hb.g.trans hv.g)

theorem and_many {h : Int} (c : Nat) (hh : 1 ≤ h ∧ h ≤ 6) : (c &&& (2 ^ h.toNat - 1)) = c % 2 ^ h.toNat := Nat.and_two_pow_sub_one_eq_mod _ _

theorem c_entry_Leaf {h : Int} {c : Nat} (hh : 1 ≤ h ∧ h ≤ 6) (hc : c < 4294967296) (hQ : Q (tup2 (.int .i64 (c % 2 ^ h.toNat : Nat)) (.int .i64 0)) H) : callV Try.prog (fnV fn_entry_Leaf) [.int .i64 h, .int .u32 (c : Int)] H Q := by
  apply S_entry_Leaf_of
  unfold S_entry_Leaf
  refine c_geo_Leaves ?_
  unfold leavesV
  rw [if_pos (highE_ok.2 hh)]
  have hp := pow_le64 (h := h.toNat) (by omega)
  have hp0 := Nat.two_pow_pos h.toNat
  try simp only [sv_cons, sv_cons1, sc_cons, sc_cons1, asB_bool, ifB_true, ifB_false, un_not, bin_lss, bin_leq, bin_gtr, bin_geq, bin_eql, bin_neq, bin_add, bin_sub, bin_mul, ok_int, ok_bool, ok_slice, ok_str, ok_ptr, ok_map, ok_func, ok_iface, ok_nil, List.all_cons, List.all_nil, Bool.and_true, Bool.true_and, seg, setSeg, List.drop_succ_cons, List.drop_zero, List.take_succ_cons, List.take_zero, List.cons_append, List.nil_append, List.append_nil, List.length_cons, List.length_nil, List.drop_nil, List.size_toArray, Nat.reduceAdd, Nat.reduceLeDiff, Nat.reduceBEq, Nat.zero_add, Nat.le_refl, decide_true, mkV, List.headD_cons, cellsV, w_fldV, w_ext, w_fldP, List.getElem?_toArray, List.getElem?_cons_zero, List.getElem?_cons_succ, beq_self_eq_true, selV]
  rw [show decide ((0 : Int) ≠ 0) = false from rfl]
  try simp only [sv_cons, sv_cons1, sc_cons, sc_cons1, asB_bool, ifB_true, ifB_false, un_not, bin_lss, bin_leq, bin_gtr, bin_geq, bin_eql, bin_neq, bin_add, bin_sub, bin_mul, ok_int, ok_bool, ok_slice, ok_str, ok_ptr, ok_map, ok_func, ok_iface, ok_nil, List.all_cons, List.all_nil, Bool.and_true, Bool.true_and, seg, setSeg, List.drop_succ_cons, List.drop_zero, List.take_succ_cons, List.take_zero, List.cons_append, List.nil_append, List.append_nil, List.length_cons, List.length_nil, List.drop_nil, List.size_toArray, Nat.reduceAdd, Nat.reduceLeDiff, Nat.reduceBEq, Nat.zero_add, Nat.le_refl, decide_true, mkV, List.headD_cons, cellsV, w_fldV, w_ext, w_fldP, List.getElem?_toArray, List.getElem?_cons_zero, List.getElem?_cons_succ, beq_self_eq_true, selV]
  rw [cv_nat (by show _ < 2 ^ 63; omega), many_nat, wrap_i64 (by unfold i64; omega), show ((2 ^ h.toNat : Nat) : Int) - 1 = ((2 ^ h.toNat - 1 : Nat) : Int) by omega, w_and (by show _ < 2 ^ 63; omega) (by show _ < 2 ^ 63; omega), and_many c hh]
  exact hQ

theorem c_ref19_Of {h : Int} {c : Nat} (hh : 1 ≤ h ∧ h ≤ 6) (hc : c < 4294967296) (hQ : Q (.int .i64 (c % 2 ^ h.toNat : Nat)) H) : callV Try.prog (fnV fn_ref19_Of) [.int .i64 h, .int .u32 (c : Int)] H Q := by
  apply S_ref19_Of_of
  unfold S_ref19_Of
  have hp0 := Nat.two_pow_pos h.toNat
  rw [cv_nat (by show _ < 2 ^ 63; omega)]
  refine c_ref07_Many (by omega) ?_
  rw [many_nat]
  refine w_rem (by omega) ?_
  rw [← Int.ofNat_tmod]
  exact hQ

end Go.Proofs.Ytlalkgkicccjiaa
