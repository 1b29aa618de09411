/- Contracts: what harms lean on. -/
import Derived.Test.YtelfpkegpffajaaConHarm0
import Derived.Test.YtelfpkegpffajaaShHarm
import Derived.Test.YtelfpkegpffajaaAbBits
import Derived.Test.YtelfpkegpffajaaAbMore
import Derived.Test.YtelfpkegpffajaaAbIter
namespace Go.Proofs.Ytelfpkegpffajaa
open Go.Ab Go.Md
set_option linter.unusedVariables false
set_option linter.unusedSimpArgs false
set_option maxRecDepth 20000

variable {H : Heap} {Q : Value → Heap → Prop} {A B C : Nat → Prop}

abbrev oddE : PanicEntry := { v := .iface ty_harm_odd (.agg #[]), recovered := false }

theorem c_harm_need {b : Bool} {R : List PanicEntry → Heap → Prop} (hQ : b = true → Q (.tuple #[]) H) (hR : b = false → R [oddE] H) : callP Try.prog (fnV fn_harm_need) [.bool b] H Q R := by
  apply S_harm_need_of
  unfold S_harm_need
  try simp only [sv_cons, sv_cons1, sc_cons, sc_cons1, asB_bool, ifB_true, ifB_false, un_not, bin_lss, bin_leq, bin_gtr, bin_geq, bin_eql, bin_neq, bin_add, bin_sub, bin_mul, ok_int, ok_bool, ok_slice, ok_str, ok_ptr, ok_map, ok_func, ok_iface, ok_nil, List.all_cons, List.all_nil, Bool.and_true, Bool.true_and, seg, setSeg, List.drop_succ_cons, List.drop_zero, List.take_succ_cons, List.take_zero, List.cons_append, List.nil_append, List.append_nil, List.length_cons, List.length_nil, List.drop_nil, List.size_toArray, Nat.reduceAdd, Nat.reduceLeDiff, Nat.reduceBEq, Nat.zero_add, Nat.le_refl, decide_true, mkV, List.headD_cons, cellsV, w_fldV, w_ext, w_fldP, List.getElem?_toArray, List.getElem?_cons_zero, List.getElem?_cons_succ, beq_self_eq_true, selV]
  refine join_of (fun s H1 => H1 = H ∧ b = true) (fun K hK => ?_) ?_
  · cases b
    · exact hR rfl
    · exact hK _ _ ⟨rfl, rfl⟩
  rintro s H1 ⟨rfl, hb⟩
  exact hQ hb

theorem c_harm_bucket {level k : Int} {d : Dv} {v : Value} {O F : Nat → Prop} {b : Nat} {bs : List Nat} {vs : List Value} {R : List PanicEntry → Heap → Prop} (h : DvR H O F b bs v vs d) (hd : Mid d)
    (hQ : hasBk d level k = true → ∀ H', G H H' → Q (cellP vs level k) H') (hR : hasBk d level k = false → ∀ H', G H H' → R [oddE] H') :
    callP Try.prog (fnV fn_harm_bucket) [.agg #[v], .int .i64 level, .int .i64 k] H Q R := by
  apply S_harm_bucket_of
  unfold S_harm_bucket
  refine newT_of fun H1 g1 _ => ?_
  have h1 := h.g g1
  have hv : Sl rBys H1 (fun _ => True) v d := h1.dv.sl fun _ _ => trivial
  have no : ¬ ((0 ≤ level ∧ level < d.length) ∧ 1 ≤ k ∧ k ≤ (lvlOf d level).length) → hasBk d level k = false := fun hn => by
    rw [← Bool.not_eq_true, hasBk_iff]; exact hn
  refine join_of (fun s H2 => H2 = H1 ∧ hasBk d level k = true) (fun K hK => ?_) ?_
  · try simp only [sv_cons, sv_cons1, sc_cons, sc_cons1, asB_bool, ifB_true, ifB_false, un_not, bin_lss, bin_leq, bin_gtr, bin_geq, bin_eql, bin_neq, bin_add, bin_sub, bin_mul, ok_int, ok_bool, ok_slice, ok_str, ok_ptr, ok_map, ok_func, ok_iface, ok_nil, List.all_cons, List.all_nil, Bool.and_true, Bool.true_and, seg, setSeg, List.drop_succ_cons, List.drop_zero, List.take_succ_cons, List.take_zero, List.cons_append, List.nil_append, List.append_nil, List.length_cons, List.length_nil, List.drop_nil, List.size_toArray, Nat.reduceAdd, Nat.reduceLeDiff, Nat.reduceBEq, Nat.zero_add, Nat.le_refl, decide_true, mkV, List.headD_cons, cellsV, w_fldV, w_ext, w_fldP, List.getElem?_toArray, List.getElem?_cons_zero, List.getElem?_cons_succ, beq_self_eq_true, selV]
    refine ifD_of (fun c1 => ?_) (fun c1 => c_harm_need (fun h => by cases h) fun _ => hR (no (by omega)) H1 g1)
    refine hv.len ?_
    try simp only [sv_cons, sv_cons1, sc_cons, sc_cons1, asB_bool, ifB_true, ifB_false, un_not, bin_lss, bin_leq, bin_gtr, bin_geq, bin_eql, bin_neq, bin_add, bin_sub, bin_mul, ok_int, ok_bool, ok_slice, ok_str, ok_ptr, ok_map, ok_func, ok_iface, ok_nil, List.all_cons, List.all_nil, Bool.and_true, Bool.true_and, seg, setSeg, List.drop_succ_cons, List.drop_zero, List.take_succ_cons, List.take_zero, List.cons_append, List.nil_append, List.append_nil, List.length_cons, List.length_nil, List.drop_nil, List.size_toArray, Nat.reduceAdd, Nat.reduceLeDiff, Nat.reduceBEq, Nat.zero_add, Nat.le_refl, decide_true, mkV, List.headD_cons, cellsV, w_fldV, w_ext, w_fldP, List.getElem?_toArray, List.getElem?_cons_zero, List.getElem?_cons_succ, beq_self_eq_true, selV]
    refine ifD_of (fun c2 => ?_) (fun c2 => c_harm_need (fun h => by cases h) fun _ => hR (no (by omega)) H1 g1)
    refine ifD_of (fun c3 => ?_) (fun c3 => c_harm_need (fun h => by cases h) fun _ => hR (no (by omega)) H1 g1)
    refine hv.getSZ c1 (lvl_get ⟨c1, c2⟩) fun w hw => hw.len ?_
    try simp only [sv_cons, sv_cons1, sc_cons, sc_cons1, asB_bool, ifB_true, ifB_false, un_not, bin_lss, bin_leq, bin_gtr, bin_geq, bin_eql, bin_neq, bin_add, bin_sub, bin_mul, ok_int, ok_bool, ok_slice, ok_str, ok_ptr, ok_map, ok_func, ok_iface, ok_nil, List.all_cons, List.all_nil, Bool.and_true, Bool.true_and, seg, setSeg, List.drop_succ_cons, List.drop_zero, List.take_succ_cons, List.take_zero, List.cons_append, List.nil_append, List.append_nil, List.length_cons, List.length_nil, List.drop_nil, List.size_toArray, Nat.reduceAdd, Nat.reduceLeDiff, Nat.reduceBEq, Nat.zero_add, Nat.le_refl, decide_true, mkV, List.headD_cons, cellsV, w_fldV, w_ext, w_fldP, List.getElem?_toArray, List.getElem?_cons_zero, List.getElem?_cons_succ, beq_self_eq_true, selV]
    refine c_harm_need (fun h => hK _ _ ⟨rfl, hasBk_iff.2 ⟨⟨c1, c2⟩, c3, of_decide_eq_true h⟩⟩) fun h => hR (no fun hh => ?_) H1 g1
    have := of_decide_eq_false h
    omega
  rintro s H2 ⟨rfl, hb⟩
  obtain ⟨_, _, hread, _⟩ := h1.cell hb
  obtain ⟨⟨hl0, hl1⟩, hk1, hk2⟩ := hasBk_iff.1 hb
  have hlen := hd.2 (lvlOf d level) (List.mem_of_getElem? (lvl_get ⟨hl0, hl1⟩))
  refine hread _ _ fun p w hp hidx _ => hp.load rfl ?_
  try simp only [sv_cons, sv_cons1, sc_cons, sc_cons1, asB_bool, ifB_true, ifB_false, un_not, bin_lss, bin_leq, bin_gtr, bin_geq, bin_eql, bin_neq, bin_add, bin_sub, bin_mul, ok_int, ok_bool, ok_slice, ok_str, ok_ptr, ok_map, ok_func, ok_iface, ok_nil, List.all_cons, List.all_nil, Bool.and_true, Bool.true_and, seg, setSeg, List.drop_succ_cons, List.drop_zero, List.take_succ_cons, List.take_zero, List.cons_append, List.nil_append, List.append_nil, List.length_cons, List.length_nil, List.drop_nil, List.size_toArray, Nat.reduceAdd, Nat.reduceLeDiff, Nat.reduceBEq, Nat.zero_add, Nat.le_refl, decide_true, mkV, List.headD_cons, cellsV, w_fldV, w_ext, w_fldP, List.getElem?_toArray, List.getElem?_cons_zero, List.getElem?_cons_succ, beq_self_eq_true, selV]
  rw [wrap_i64 (by unfold i64; omega)]
  exact hidx _ _ (hQ hb _ g1)

theorem c_harm_behind {x : Value} {l : List See} {many : Int} {R : List PanicEntry → Heap → Prop} (hl : Sl rSee H B x l) (hn : l.length ≤ 1000000) (hm : i64 many)
    (hQ : 0 ≤ many → many ≤ writesN l → ∀ v H', Sl rSee H' B v (firstW l many.toNat) → G H H' → Q v H') (hR : ¬ (0 ≤ many ∧ many ≤ writesN l) → ∀ H', G H H' → R [oddE] H') :
    callP Try.prog (fnV fn_harm_behind) [x, .int .i64 many] H Q R := by
  apply S_harm_behind_of
  unfold S_harm_behind
  try simp only [sv_cons, sv_cons1, sc_cons, sc_cons1, asB_bool, ifB_true, ifB_false, un_not, bin_lss, bin_leq, bin_gtr, bin_geq, bin_eql, bin_neq, bin_add, bin_sub, bin_mul, ok_int, ok_bool, ok_slice, ok_str, ok_ptr, ok_map, ok_func, ok_iface, ok_nil, List.all_cons, List.all_nil, Bool.and_true, Bool.true_and, seg, setSeg, List.drop_succ_cons, List.drop_zero, List.take_succ_cons, List.take_zero, List.cons_append, List.nil_append, List.append_nil, List.length_cons, List.length_nil, List.drop_nil, List.size_toArray, Nat.reduceAdd, Nat.reduceLeDiff, Nat.reduceBEq, Nat.zero_add, Nat.le_refl, decide_true, mkV, List.headD_cons, cellsV, w_fldV, w_ext, w_fldP, List.getElem?_toArray, List.getElem?_cons_zero, List.getElem?_cons_succ, beq_self_eq_true, selV]
  refine c_harm_need (fun h0 => ?_) fun h0 => hR (fun hh => by have := of_decide_eq_false h0; omega) H (G.fr (Fr.refl _ H))
  have h0 := of_decide_eq_true h0
  unfold i64 at hm
  refine hl.len ?_
  refine loop_up l.length (fun i s H' => G H H' ∧ ∃ m : Nat, s = [[.int .i64 (m : Int)], [.int .i64 (i : Int)]] ∧ (m : Int) ≤ many ∧ firstW l many.toNat = l.take i ++ firstW (l.drop i) m ∧ (writesN l : Int) - many = writesN (l.drop i) - m)
    ⟨G.fr (Fr.refl _ H), many.toNat, by rw [Int.toNat_of_nonneg h0]; rfl, by omega, by simp, by simp; omega⟩ ?_
  rintro i s H' K hi ⟨g, m, rfl, hmm, e1, e2⟩ hK
  try simp only [sv_cons, sv_cons1, sc_cons, sc_cons1, asB_bool, ifB_true, ifB_false, un_not, bin_lss, bin_leq, bin_gtr, bin_geq, bin_eql, bin_neq, bin_add, bin_sub, bin_mul, ok_int, ok_bool, ok_slice, ok_str, ok_ptr, ok_map, ok_func, ok_iface, ok_nil, List.all_cons, List.all_nil, Bool.and_true, Bool.true_and, seg, setSeg, List.drop_succ_cons, List.drop_zero, List.take_succ_cons, List.take_zero, List.cons_append, List.nil_append, List.append_nil, List.length_cons, List.length_nil, List.drop_nil, List.size_toArray, Nat.reduceAdd, Nat.reduceLeDiff, Nat.reduceBEq, Nat.zero_add, Nat.le_refl, decide_true, mkV, List.headD_cons, cellsV, w_fldV, w_ext, w_fldP, List.getElem?_toArray, List.getElem?_cons_zero, List.getElem?_cons_succ, beq_self_eq_true, selV]
  refine ifD_of (fun c1 => ?_) (fun c1 => ?_)
  · have hlt : i < l.length := by omega
    have hx : l[i]? = some l[i] := List.getElem?_eq_getElem hlt
    have hdr : l.drop i = l[i] :: l.drop (i + 1) := List.drop_eq_getElem_cons hlt
    have htk : l.take (i + 1) = l.take i ++ [l[i]] := List.take_succ_eq_append_getElem hlt
    refine (hl.g g).get rfl hx fun cs hr => ?_
    obtain ⟨u, rfl, hu⟩ := hr
    refine newT_of fun H7 g7 s7 => ?_
    try simp only [sv_cons, sv_cons1, sc_cons, sc_cons1, asB_bool, ifB_true, ifB_false, un_not, bin_lss, bin_leq, bin_gtr, bin_geq, bin_eql, bin_neq, bin_add, bin_sub, bin_mul, ok_int, ok_bool, ok_slice, ok_str, ok_ptr, ok_map, ok_func, ok_iface, ok_nil, List.all_cons, List.all_nil, Bool.and_true, Bool.true_and, seg, setSeg, List.drop_succ_cons, List.drop_zero, List.take_succ_cons, List.take_zero, List.cons_append, List.nil_append, List.append_nil, List.length_cons, List.length_nil, List.drop_nil, List.size_toArray, Nat.reduceAdd, Nat.reduceLeDiff, Nat.reduceBEq, Nat.zero_add, Nat.le_refl, decide_true, mkV, List.headD_cons, cellsV, w_fldV, w_ext, w_fldP, List.getElem?_toArray, List.getElem?_cons_zero, List.getElem?_cons_succ, beq_self_eq_true, selV, hu.okcv]
    refine ifD_of (fun c2 => ?_) (fun c2 => ?_)
    · have hm0 : m = 0 := by omega
      subst hm0
      rw [firstW_zero, List.append_nil] at e1
      refine ((hl.g g).g g7).cut rfl (by omega) (Nat.zero_le _) (by omega) (fun K h => h) (fun K h => h) fun u hu => hQ h0 (by omega) u H7 ?_ (g.trans g7)
      rw [e1]; simpa using hu
    · obtain ⟨m', rfl⟩ : ∃ m', m = m' + 1 := ⟨m - 1, by omega⟩
      rw [hdr] at e1 e2
      rw [writesN_cons] at e2
      generalize l[i] = s at *
      refine join_of (fun st H1 => H1 = H7 ∧ st = [[.int .i64 ((if s.kind = 2 then m' else m' + 1 : Nat) : Int)]]) (fun K hK => ?_) ?_
      · refine ifD_of (fun c3 => ?_) (fun c3 => ?_)
        · rw [wrap_i64 (by unfold i64; omega)]
          refine hK _ _ ⟨rfl, ?_⟩
          rw [if_pos c3]; simp
        · exact hK _ _ ⟨rfl, by rw [if_neg c3]⟩
      rintro st H1 ⟨rfl, rfl⟩
      try simp only [sv_cons, sv_cons1, sc_cons, sc_cons1, asB_bool, ifB_true, ifB_false, un_not, bin_lss, bin_leq, bin_gtr, bin_geq, bin_eql, bin_neq, bin_add, bin_sub, bin_mul, ok_int, ok_bool, ok_slice, ok_str, ok_ptr, ok_map, ok_func, ok_iface, ok_nil, List.all_cons, List.all_nil, Bool.and_true, Bool.true_and, seg, setSeg, List.drop_succ_cons, List.drop_zero, List.take_succ_cons, List.take_zero, List.cons_append, List.nil_append, List.append_nil, List.length_cons, List.length_nil, List.drop_nil, List.size_toArray, Nat.reduceAdd, Nat.reduceLeDiff, Nat.reduceBEq, Nat.zero_add, Nat.le_refl, decide_true, mkV, List.headD_cons, cellsV, w_fldV, w_ext, w_fldP, List.getElem?_toArray, List.getElem?_cons_zero, List.getElem?_cons_succ, beq_self_eq_true, selV]
      rw [wrap_i64 (by unfold i64; omega)]
      refine hK _ _ hlt ⟨g.trans g7, (if s.kind = 2 then m' else m' + 1), by simp, by split <;> omega, ?_, ?_⟩
      · rw [e1, htk]
        simp [firstW]
      · split at e2 <;> (rename_i hk2; simp only [hk2, if_true, if_false]; omega)
  · have hie : i = l.length := by omega
    subst hie
    have hw0 : writesN ([] : List See) = 0 := rfl
    rw [List.take_length, List.drop_length] at e1
    rw [List.drop_length, hw0] at e2
    have e1' : firstW l many.toNat = l := by rw [e1]; cases m <;> simp [firstW]
    refine c_harm_need (fun h => hQ h0 (by have := of_decide_eq_true h; omega) x H' (by rw [e1']; exact hl.g g) g) fun h => hR (fun hh => ?_) H' g
    have := of_decide_eq_false h
    omega

theorem versL_get {l : List See} {i : Nat} {s : See} {level b : Int} (hs : l[i]? = some s) (hw : isW level b s = true) : (versL l level b)[(versL (l.take i) level b).length]? = some s.bytes := by
  have hlt := (List.getElem?_eq_some_iff.1 hs).1
  have e : l = l.take i ++ s :: l.drop (i + 1) := by
    rw [(List.getElem?_eq_some_iff.1 hs).2.symm, ← List.drop_eq_getElem_cons hlt, List.take_append_drop]
  conv => lhs; lhs; rw [e]
  unfold versL
  rw [List.filter_append, List.map_append, List.getElem?_append_right (Nat.le_refl _), Nat.sub_self, List.filter_cons, if_pos hw]
  rfl

theorem c_written_1 {a3 a4 a5 : Nat} {x : Value} {l : List See} {level b : Int} (hn : l.length ≤ 1000000) :
    IterC Try.prog (.func (.func fn_harm_written_1) #[] #[.pointer (some ⟨a3, 0, none⟩), .pointer (some ⟨a4, 0, none⟩), .pointer (some ⟨a5, 0, none⟩)]) (versL l level b).length
      (fun i m H a => ∃ u x, (versL l level b)[i]? = some x ∧ a = [u] ∧ Sl rU8 H B u x) (fun H => Bx H a3 [x] ∧ Bx H a4 [.int .i64 level] ∧ Bx H a5 [.int .i64 b] ∧ Sl rSee H B x l) := by
  intro yv I E H Q hG hE hS hSE hsz h0 hy hQ
  apply C_harm_written_1_of
  unfold S_harm_written_1
  obtain ⟨h3, h4, h5, hl⟩ := hS _ _ h0
  refine h3.load rfl ?_
  try simp only [sv_cons, sv_cons1, sc_cons, sc_cons1, asB_bool, ifB_true, ifB_false, un_not, bin_lss, bin_leq, bin_gtr, bin_geq, bin_eql, bin_neq, bin_add, bin_sub, bin_mul, ok_int, ok_bool, ok_slice, ok_str, ok_ptr, ok_map, ok_func, ok_iface, ok_nil, List.all_cons, List.all_nil, Bool.and_true, Bool.true_and, seg, setSeg, List.drop_succ_cons, List.drop_zero, List.take_succ_cons, List.take_zero, List.cons_append, List.nil_append, List.append_nil, List.length_cons, List.length_nil, List.drop_nil, List.size_toArray, Nat.reduceAdd, Nat.reduceLeDiff, Nat.reduceBEq, Nat.zero_add, Nat.le_refl, decide_true, mkV, List.headD_cons, cellsV, w_fldV, w_ext, w_fldP, List.getElem?_toArray, List.getElem?_cons_zero, List.getElem?_cons_succ, beq_self_eq_true, selV]
  refine hl.len ?_
  refine loop_up l.length (fun i st H' => I (versL (l.take i) level b).length H' ∧ st = [[.int .i64 (i : Int)]]) ⟨h0, rfl⟩ ?_
  rintro i st H' K hi ⟨hI, rfl⟩ hK
  try simp only [sv_cons, sv_cons1, sc_cons, sc_cons1, asB_bool, ifB_true, ifB_false, un_not, bin_lss, bin_leq, bin_gtr, bin_geq, bin_eql, bin_neq, bin_add, bin_sub, bin_mul, ok_int, ok_bool, ok_slice, ok_str, ok_ptr, ok_map, ok_func, ok_iface, ok_nil, List.all_cons, List.all_nil, Bool.and_true, Bool.true_and, seg, setSeg, List.drop_succ_cons, List.drop_zero, List.take_succ_cons, List.take_zero, List.cons_append, List.nil_append, List.append_nil, List.length_cons, List.length_nil, List.drop_nil, List.size_toArray, Nat.reduceAdd, Nat.reduceLeDiff, Nat.reduceBEq, Nat.zero_add, Nat.le_refl, decide_true, mkV, List.headD_cons, cellsV, w_fldV, w_ext, w_fldP, List.getElem?_toArray, List.getElem?_cons_zero, List.getElem?_cons_succ, beq_self_eq_true, selV]
  refine ifD_of (fun c1 => ?_) (fun c1 => ?_)
  · have hlt : i < l.length := by omega
    have hx : l[i]? = some l[i] := List.getElem?_eq_getElem hlt
    have htk : l.take (i + 1) = l.take i ++ [l[i]] := List.take_succ_eq_append_getElem hlt
    obtain ⟨_, _, _, hl'⟩ := hS _ _ hI
    refine hl'.get rfl hx fun cs hr => ?_
    obtain ⟨u, rfl, hu⟩ := hr
    refine newT_of fun H7 g7 s7 => ?_
    have hI7 := hG _ _ _ hI g7
    obtain ⟨k3, k4, k5, kl⟩ := hS _ _ hI7
    have hu7 := hu.g g7
    try simp only [sv_cons, sv_cons1, sc_cons, sc_cons1, asB_bool, ifB_true, ifB_false, un_not, bin_lss, bin_leq, bin_gtr, bin_geq, bin_eql, bin_neq, bin_add, bin_sub, bin_mul, ok_int, ok_bool, ok_slice, ok_str, ok_ptr, ok_map, ok_func, ok_iface, ok_nil, List.all_cons, List.all_nil, Bool.and_true, Bool.true_and, seg, setSeg, List.drop_succ_cons, List.drop_zero, List.take_succ_cons, List.take_zero, List.cons_append, List.nil_append, List.append_nil, List.length_cons, List.length_nil, List.drop_nil, List.size_toArray, Nat.reduceAdd, Nat.reduceLeDiff, Nat.reduceBEq, Nat.zero_add, Nat.le_refl, decide_true, mkV, List.headD_cons, cellsV, w_fldV, w_ext, w_fldP, List.getElem?_toArray, List.getElem?_cons_zero, List.getElem?_cons_succ, beq_self_eq_true, selV, hu.okcv]
    have hget : ∀ s, l[i] = s → isW level b s = true → (versL l level b)[(versL (l.take i) level b).length]? = some s.bytes := fun s e hw => versL_get (e ▸ hx) hw
    generalize l[i] = s at *
    refine join_of (fun st H1 => ∃ c : Bool, st = [[.bool c]] ∧ (c = true → E H1) ∧ (c = false → I (versL (l.take (i + 1)) level b).length H1)) (fun K hK => ?_) ?_
    · have skip : isW level b s = false → K [[.bool false]] H7 := fun hw => hK _ _ ⟨false, rfl, (fun h => by cases h), fun _ => by
        rw [htk, versL_snoc, hw]; simpa using hI7⟩
      refine ifD_of (fun c2 => ?_) (fun c2 => skip (by unfold isW; simp [c2]))
      refine k4.load rfl ?_
      try simp only [sv_cons, sv_cons1, sc_cons, sc_cons1, asB_bool, ifB_true, ifB_false, un_not, bin_lss, bin_leq, bin_gtr, bin_geq, bin_eql, bin_neq, bin_add, bin_sub, bin_mul, ok_int, ok_bool, ok_slice, ok_str, ok_ptr, ok_map, ok_func, ok_iface, ok_nil, List.all_cons, List.all_nil, Bool.and_true, Bool.true_and, seg, setSeg, List.drop_succ_cons, List.drop_zero, List.take_succ_cons, List.take_zero, List.cons_append, List.nil_append, List.append_nil, List.length_cons, List.length_nil, List.drop_nil, List.size_toArray, Nat.reduceAdd, Nat.reduceLeDiff, Nat.reduceBEq, Nat.zero_add, Nat.le_refl, decide_true, mkV, List.headD_cons, cellsV, w_fldV, w_ext, w_fldP, List.getElem?_toArray, List.getElem?_cons_zero, List.getElem?_cons_succ, beq_self_eq_true, selV]
      refine ifD_of (fun c3 => ?_) (fun c3 => skip (by unfold isW; simp [c3]))
      refine k5.load rfl ?_
      try simp only [sv_cons, sv_cons1, sc_cons, sc_cons1, asB_bool, ifB_true, ifB_false, un_not, bin_lss, bin_leq, bin_gtr, bin_geq, bin_eql, bin_neq, bin_add, bin_sub, bin_mul, ok_int, ok_bool, ok_slice, ok_str, ok_ptr, ok_map, ok_func, ok_iface, ok_nil, List.all_cons, List.all_nil, Bool.and_true, Bool.true_and, seg, setSeg, List.drop_succ_cons, List.drop_zero, List.take_succ_cons, List.take_zero, List.cons_append, List.nil_append, List.append_nil, List.length_cons, List.length_nil, List.drop_nil, List.size_toArray, Nat.reduceAdd, Nat.reduceLeDiff, Nat.reduceBEq, Nat.zero_add, Nat.le_refl, decide_true, mkV, List.headD_cons, cellsV, w_fldV, w_ext, w_fldP, List.getElem?_toArray, List.getElem?_cons_zero, List.getElem?_cons_succ, beq_self_eq_true, selV]
      refine ifD_of (fun c4 => ?_) (fun c4 => skip (by unfold isW; simp [c4]))
      have hw : isW level b s = true := by unfold isW; simp [c2, c3, c4]
      have hg := hget s rfl hw
      refine hy _ H7 _ _ (List.getElem?_eq_some_iff.1 hg).1 hI7 ⟨u, s.bytes, hg, rfl, hu7⟩ (fun H2 hI2 => ?_) (fun H2 hE2 => ?_)
      · try simp only [sv_cons, sv_cons1, sc_cons, sc_cons1, asB_bool, ifB_true, ifB_false, un_not, bin_lss, bin_leq, bin_gtr, bin_geq, bin_eql, bin_neq, bin_add, bin_sub, bin_mul, ok_int, ok_bool, ok_slice, ok_str, ok_ptr, ok_map, ok_func, ok_iface, ok_nil, List.all_cons, List.all_nil, Bool.and_true, Bool.true_and, seg, setSeg, List.drop_succ_cons, List.drop_zero, List.take_succ_cons, List.take_zero, List.cons_append, List.nil_append, List.append_nil, List.length_cons, List.length_nil, List.drop_nil, List.size_toArray, Nat.reduceAdd, Nat.reduceLeDiff, Nat.reduceBEq, Nat.zero_add, Nat.le_refl, decide_true, mkV, List.headD_cons, cellsV, w_fldV, w_ext, w_fldP, List.getElem?_toArray, List.getElem?_cons_zero, List.getElem?_cons_succ, beq_self_eq_true, selV]
        exact hK _ _ ⟨false, rfl, (fun h => by cases h), fun _ => by rw [htk, versL_snoc, hw]; simpa using hI2⟩
      · try simp only [sv_cons, sv_cons1, sc_cons, sc_cons1, asB_bool, ifB_true, ifB_false, un_not, bin_lss, bin_leq, bin_gtr, bin_geq, bin_eql, bin_neq, bin_add, bin_sub, bin_mul, ok_int, ok_bool, ok_slice, ok_str, ok_ptr, ok_map, ok_func, ok_iface, ok_nil, List.all_cons, List.all_nil, Bool.and_true, Bool.true_and, seg, setSeg, List.drop_succ_cons, List.drop_zero, List.take_succ_cons, List.take_zero, List.cons_append, List.nil_append, List.append_nil, List.length_cons, List.length_nil, List.drop_nil, List.size_toArray, Nat.reduceAdd, Nat.reduceLeDiff, Nat.reduceBEq, Nat.zero_add, Nat.le_refl, decide_true, mkV, List.headD_cons, cellsV, w_fldV, w_ext, w_fldP, List.getElem?_toArray, List.getElem?_cons_zero, List.getElem?_cons_succ, beq_self_eq_true, selV]
        exact hK _ _ ⟨true, rfl, (fun _ => hE2), fun h => by cases h⟩
    rintro st H1 ⟨c, rfl, c1', c2'⟩
    try simp only [sv_cons, sv_cons1, sc_cons, sc_cons1, asB_bool, ifB_true, ifB_false, un_not, bin_lss, bin_leq, bin_gtr, bin_geq, bin_eql, bin_neq, bin_add, bin_sub, bin_mul, ok_int, ok_bool, ok_slice, ok_str, ok_ptr, ok_map, ok_func, ok_iface, ok_nil, List.all_cons, List.all_nil, Bool.and_true, Bool.true_and, seg, setSeg, List.drop_succ_cons, List.drop_zero, List.take_succ_cons, List.take_zero, List.cons_append, List.nil_append, List.append_nil, List.length_cons, List.length_nil, List.drop_nil, List.size_toArray, Nat.reduceAdd, Nat.reduceLeDiff, Nat.reduceBEq, Nat.zero_add, Nat.le_refl, decide_true, mkV, List.headD_cons, cellsV, w_fldV, w_ext, w_fldP, List.getElem?_toArray, List.getElem?_cons_zero, List.getElem?_cons_succ, beq_self_eq_true, selV]
    refine ifB_of (fun hc => hQ _ _ (.inr (c1' hc))) (fun hc => ?_)
    rw [wrap_i64 (by unfold i64; omega)]
    exact hK _ _ hlt ⟨c2' hc, by simp⟩
  · have : i = l.length := by omega
    subst this
    rw [List.take_length] at hI
    exact hQ _ _ (.inl hI)

theorem c_CloneL {x : Value} {bs : By} (hx : Sl rU8 H A x bs) (hl : bs.length ≤ 140737488355328) (hQ : ∀ u H' b, Ow rU8 H' b (fun _ => False) u bs → G H H' → (b = 0 ∨ H.size < b) → Q u H') : callV Try.prog (fnV fn_slices_Clone_byte_byte) [x] H Q := by
  apply S_slices_Clone_byte_byte_of
  unfold S_slices_Clone_byte_byte
  have h0 := hx
  obtain ⟨a, cap, css, rfl, h2, h3, h4⟩ := hx
  simp only [binV, binR]
  refine ifB_of (fun ha => ?_) (fun ha => ?_)
  · have : bs = [] := by
      rcases h4 with h | ⟨b, o, rfl, _⟩
      · exact h
      · cases ha
    subst this
    exact hQ _ H 0 (Ow.nil _ _ _) (G.fr (Fr.refl _ _)) (.inl rfl)
  · refine bld_nil rU8 fun t H1 ht g1 s1 => clone_appL ht (h0.g g1) rfl hl fun u H2 b ho hf hb => ?_
    have := ho.lt
    exact hQ u H2 b ho (g1.then hf fun y hy => show y + 1 ≠ H.size + 1 by omega) (.inr (by omega))

theorem c_harm_Versions {x : Value} {l : List See} {level b : Int} (hl : Sl rSee H B x l) (hn : l.length ≤ 10000) (hby : ∀ s ∈ l, s.bytes.length ≤ 140737488355328)
    (hQ : ∀ v bb vs F H', Cl H H' v bb vs F (versL l level b) → Q v H') : callV Try.prog (fnV fn_harm_Versions) [x, .int .i64 level, .int .i64 b] H Q := by
  have hl := hl.old
  apply S_harm_Versions_of
  unfold S_harm_Versions
  refine newC_bx fun H1 h6 g1 s1 => ?_
  apply S_harm_written_of
  unfold S_harm_written
  try simp only [sv_cons, sv_cons1, sc_cons, sc_cons1, asB_bool, ifB_true, ifB_false, un_not, bin_lss, bin_leq, bin_gtr, bin_geq, bin_eql, bin_neq, bin_add, bin_sub, bin_mul, ok_int, ok_bool, ok_slice, ok_str, ok_ptr, ok_map, ok_func, ok_iface, ok_nil, List.all_cons, List.all_nil, Bool.and_true, Bool.true_and, seg, setSeg, List.drop_succ_cons, List.drop_zero, List.take_succ_cons, List.take_zero, List.cons_append, List.nil_append, List.append_nil, List.length_cons, List.length_nil, List.drop_nil, List.size_toArray, Nat.reduceAdd, Nat.reduceLeDiff, Nat.reduceBEq, Nat.zero_add, Nat.le_refl, decide_true, mkV, List.headD_cons, cellsV, w_fldV, w_ext, w_fldP, List.getElem?_toArray, List.getElem?_cons_zero, List.getElem?_cons_succ, beq_self_eq_true, selV, hl.okcv]
  refine newC_bx fun H2 h3 g2 s2 => newC_bx fun H3 h4 g3 s3 => newC_bx fun H4 h5 g4 s4 => ?_
  have h4 := h4.g g4
  have h3 := (h3.g g3).g g4
  have h6 := ((h6.g g2).g g3).g g4
  have g := ((g1.trans g2).trans g3).trans g4
  have hvl := versL_len (l := l) (level := level) (b := b)
  refine range_iter (c_written_1 (B := fun y => y < H.size) (x := x) (l := l) (level := level) (b := b) (by omega)) trivial
    (fun i H' => ∃ v bb vs F, Cl H H' v bb vs F ((versL l level b).take i) ∧ bb ≠ H4.size + 1 + 1 ∧ (bb = 0 ∨ H4.size < bb) ∧ (∀ y, F y → H4.size ≤ y) ∧ Bx H' H.size [v] ∧ Bx H' H1.size [x] ∧ Bx H' H2.size [.int .i64 level] ∧ Bx H' H3.size [.int .i64 b] ∧ Sl rSee H' (fun y => y < H.size) x l ∧ H4.size + 2 ≤ H'.size)
    (fun _ _ => False) ?_ (fun _ _ _ h => h.elim) ?_ (fun _ _ _ h => h.elim) (fun i H' ⟨v, bb, vs, F, h1, h2, h3, h4, h5, h6, h7, h8, h9, h10⟩ => h10) (fun _ _ h => h.elim) ?_ ?_ ?_ (fun _ _ h => h.elim)
  · rintro i H5 H6 ⟨v, bb, vs, F, k1, k2, k3, k4, k5, k6, k7, k8, k9, k10⟩ g'
    have := g'.size
    exact ⟨v, bb, vs, F, ⟨k1.own.g g', k1.leaves.imp fun u x hu => hu.up g' fun y hy _ => ⟨trivial, hy⟩, k1.fresh, fun y hy => by have := k1.freshF y hy; omega, k1.g.trans g'⟩, k2, k3, k4, k5.g g', k6.g g', k7.g g', k8.g g', k9.g g', by omega⟩
  · rintro i H5 H6 ⟨v, bb, vs, F, k1, k2, k3, k4, k5, k6, k7, k8, k9, k10⟩ f
    exact ⟨k6.up f (by omega), k7.up f (by omega), k8.up f (by omega), k9.up f fun y hy _ => ⟨show y ≠ _ by omega, hy⟩⟩
  · intro H' g' s'
    exact ⟨.slice none 0 0, 0, [], fun _ => False, by simpa using Cl.nil (g.trans g'), by omega, .inl rfl, fun y h => h.elim, h6.g g', h3.g g', h4.g g', h5.g g', hl.g (g.trans g'), by omega⟩
  · rintro i H5 H' a K hi ⟨v, bb, vs, F, k1, k2, k3, k4, k5, k6, k7, k8, k9, k10⟩ ⟨u, xb, hxb, rfl, hu⟩ f sz htb hK _
    unfold arg1
    have hbl : xb.length ≤ 140737488355328 := by
      obtain ⟨s, hs, rfl⟩ := versL_mem (List.mem_of_getElem? hxb)
      exact hby s hs
    have hu : Sl rU8 H' (fun y => y < H.size) u xb := hu.up f fun y hy _ => ⟨show y ≠ _ by omega, hy⟩
    refine k5.load rfl ?_
    try simp only [sv_cons, sv_cons1, sc_cons, sc_cons1, asB_bool, ifB_true, ifB_false, un_not, bin_lss, bin_leq, bin_gtr, bin_geq, bin_eql, bin_neq, bin_add, bin_sub, bin_mul, ok_int, ok_bool, ok_slice, ok_str, ok_ptr, ok_map, ok_func, ok_iface, ok_nil, List.all_cons, List.all_nil, Bool.and_true, Bool.true_and, seg, setSeg, List.drop_succ_cons, List.drop_zero, List.take_succ_cons, List.take_zero, List.cons_append, List.nil_append, List.append_nil, List.length_cons, List.length_nil, List.drop_nil, List.size_toArray, Nat.reduceAdd, Nat.reduceLeDiff, Nat.reduceBEq, Nat.zero_add, Nat.le_refl, decide_true, mkV, List.headD_cons, cellsV, w_fldV, w_ext, w_fldP, List.getElem?_toArray, List.getElem?_cons_zero, List.getElem?_cons_succ, beq_self_eq_true, selV]
    refine c_CloneL hu hbl fun w H6 bw hw g6 hbw => ?_
    have hil : ((versL l level b).take i).length = i := by rw [List.length_take]; omega
    have hs6 := g6.size
    have hbl2 := k1.own.lt
    have hlen := k1.leaves.1
    have hwl := hw.lt
    have hn4 := g.size
    have k5 := k5.g g6
    refine ⟨k5.load rfl rfl, ?_⟩
    refine bld_one (vrep_V (A := fun _ => False) hw.okcv) rfl (fun _ => rfl) rfl fun t H7 ht g7 s7 => ⟨(k5.g g7).load rfl rfl, ?_⟩
    have k5 := k5.g g7
    have hs7 := g7.size
    refine ((k1.own.g g6).g g7).app ht.src rfl (by decide) rfl (fun y hy _ => by simp at hy) (by rw [hlen, hil]; simp; omega) (by rw [hlen, hil]; simp; omega) fun w' H8 b' ho f8 hb' _ => ?_
    have hs8 := f8.size
    have hbn : H.size + 1 ≠ bb := by omega
    refine (k5.up f8 hbn).store ho.okcv fun H9 k5 f9 s9 => hK _ ⟨w', b', vs ++ [w], fun y => F y ∨ y + 1 = bw, ⟨?_, ?_, by omega, fun y hy => ?_, ?_⟩, by omega, by omega, fun y hy => ?_, k5, ?_, ?_, ?_, ?_, by omega⟩ ?_
    · exact (ho.mono (A' := fun _ => False) fun y hy _ => by simp at hy).upF f9 fun k hk => show k ≠ H.size by omega
    · rw [List.take_add_one, hxb]
      refine (k1.leaves.imp fun u x hu => (((hu.up g6 (F' := F) fun z hz _ => ⟨trivial, hz⟩).up g7 (F' := F) fun z hz _ => ⟨trivial, hz⟩).up f8 (F' := F) fun z hz _ => ⟨(k1.freshF z hz).2.2, hz⟩).up f9 fun z hz _ => ⟨show z ≠ H.size by have := k4 z hz; omega, .inl hz⟩).snoc ?_
      exact (((Ow.lf hw).up g7 (F' := fun z => z + 1 = bw) fun z hz _ => ⟨trivial, hz⟩).up f8 (F' := fun z => z + 1 = bw) fun z hz _ => ⟨show z + 1 ≠ bb by have : z + 1 = bw := hz; omega, hz⟩).up f9 fun z hz _ => ⟨show z ≠ H.size by have : z + 1 = bw := hz; omega, .inr hz⟩
    · rcases hy with hy | hy
      · have := k1.freshF y hy
        omega
      · omega
    · exact (((k1.g.trans g6).trans g7).then f8 fun y hy => show y + 1 ≠ bb by omega).then f9 fun y hy => show y ≠ H.size by omega
    · rcases hy with hy | hy
      · exact k4 y hy
      · omega
    · exact (((k6.g g6).g g7).up f8 (by omega)).up f9 (by omega)
    · exact (((k7.g g6).g g7).up f8 (by omega)).up f9 (by omega)
    · exact (((k8.g g6).g g7).up f8 (by omega)).up f9 (by omega)
    · exact (((k9.g g6).g g7).up f8 fun y hy _ => ⟨show y + 1 ≠ bb by omega, hy⟩).up f9 fun y hy _ => ⟨show y ≠ H.size by omega, hy⟩
    · exact fr_at (fr_at (fr_at (fr_at htb g6 trivial) g7 trivial) f8 (show H4.size + 1 + 1 ≠ bb by omega)) f9 (show H4.size + 1 ≠ H.size by omega)
  · rintro H' ⟨v, bb, vs, F, k1, k2, k3, k4, k5, k6, k7, k8, k9, k10⟩
    rw [List.take_of_length_le (Nat.le_refl _)] at k1
    refine k5.load rfl ?_
    try simp only [sv_cons, sv_cons1, sc_cons, sc_cons1, asB_bool, ifB_true, ifB_false, un_not, bin_lss, bin_leq, bin_gtr, bin_geq, bin_eql, bin_neq, bin_add, bin_sub, bin_mul, ok_int, ok_bool, ok_slice, ok_str, ok_ptr, ok_map, ok_func, ok_iface, ok_nil, List.all_cons, List.all_nil, Bool.and_true, Bool.true_and, seg, setSeg, List.drop_succ_cons, List.drop_zero, List.take_succ_cons, List.take_zero, List.cons_append, List.nil_append, List.append_nil, List.length_cons, List.length_nil, List.drop_nil, List.size_toArray, Nat.reduceAdd, Nat.reduceLeDiff, Nat.reduceBEq, Nat.zero_add, Nat.le_refl, decide_true, mkV, List.headD_cons, cellsV, w_fldV, w_ext, w_fldP, List.getElem?_toArray, List.getElem?_cons_zero, List.getElem?_cons_succ, beq_self_eq_true, selV]
    refine k5.store k1.own.okcv fun H5 k5 f5 s5 => k5.load rfl ?_
    try simp only [sv_cons, sv_cons1, sc_cons, sc_cons1, asB_bool, ifB_true, ifB_false, un_not, bin_lss, bin_leq, bin_gtr, bin_geq, bin_eql, bin_neq, bin_add, bin_sub, bin_mul, ok_int, ok_bool, ok_slice, ok_str, ok_ptr, ok_map, ok_func, ok_iface, ok_nil, List.all_cons, List.all_nil, Bool.and_true, Bool.true_and, seg, setSeg, List.drop_succ_cons, List.drop_zero, List.take_succ_cons, List.take_zero, List.cons_append, List.nil_append, List.append_nil, List.length_cons, List.length_nil, List.drop_nil, List.size_toArray, Nat.reduceAdd, Nat.reduceLeDiff, Nat.reduceBEq, Nat.zero_add, Nat.le_refl, decide_true, mkV, List.headD_cons, cellsV, w_fldV, w_ext, w_fldP, List.getElem?_toArray, List.getElem?_cons_zero, List.getElem?_cons_succ, beq_self_eq_true, selV]
    have hf := k1.fresh
    refine hQ v bb vs F H5 ⟨k1.own.upF f5 fun k hk => show k ≠ H.size by omega, k1.leaves.imp fun u x hu => hu.up f5 fun y hy _ => ⟨show y ≠ H.size by have := k4 y hy; have := g.size; omega, hy⟩, k1.fresh, fun y hy => by have := k1.freshF y hy; omega, k1.g.then f5 fun y hy => show y ≠ H.size by omega⟩

end Go.Proofs.Ytelfpkegpffajaa
