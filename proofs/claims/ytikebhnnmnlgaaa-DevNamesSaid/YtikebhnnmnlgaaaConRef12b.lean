/- Contracts: buckets read and written, as the reference has them. -/
import Derived.Test.YtikebhnnmnlgaaaConRef12
namespace Go.Proofs.Ytikebhnnmnlgaaa
open Go.Ab Go.Md
set_option linter.unusedVariables false
set_option linter.unusedSimpArgs false
set_option maxRecDepth 20000

variable {H : Heap} {Q : Value → Heap → Prop} {A B C : Nat → Prop}

theorem vrep_see {H' : Heap} {F : Nat → Prop} {kind level bucket : Int} {u : Value} {x : By} (h : Sl rU8 H F u x) : VRep rSee H F true (.agg #[.int .u8 kind, .int .i64 level, .int .i64 bucket, u]) (⟨kind, level, bucket, x⟩ : See) :=
  ⟨[.int .u8 kind, .int .i64 level, .int .i64 bucket, u], rfl, u, rfl, h⟩
theorem vrep_by {F : Nat → Prop} {u : Value} {x : By} (h : Sl rU8 H F u x) : VRep rBy H F false u x := ⟨[u], rfl, u, rfl, h⟩

theorem mid_len {d : Dv} (hd : Mid d) {level : Int} : (lvlOf d level).length ≤ 1000 := by
  unfold lvlOf
  rw [List.getD_eq_getElem?_getD]
  cases h : d[level.toNat]? with
  | none => simp
  | some x => exact (hd.2 x (List.mem_of_getElem? h)).1
theorem mid_bk {d : Dv} (hd : Mid d) {level b : Int} : (bk d level b).length ≤ 1000000 := by
  unfold bk lvlOf
  rw [List.getD_eq_getElem?_getD, List.getD_eq_getElem?_getD]
  cases h : d[level.toNat]? with
  | none => simp
  | some x =>
    simp only [Option.getD_some]
    cases h2 : x[(b - 1).toNat]? with
    | none => simp
    | some y => exact (hd.2 x (List.mem_of_getElem? h)).2 y (List.mem_of_getElem? h2)

theorem c_ref12_Got {a l : Value} {d : Dv} {level : Int} {bs : List Int} (ha : Sl rBys H A a d) (hb : Sl (rI .i64) H B l bs) (hd : Mid d) (hl : bs.length ≤ 1000000) (he : levE d level bs = 0)
    (hQ : ∀ v1 v2 H', Sl rBy H' (fun y => H.size ≤ y) v1 (bs.map (bk d level)) → Sl rSee H' (fun y => H.size ≤ y) v2 (seesR d level bs) → G H H' → Q (tup2 v1 v2) H') :
    callV Try.prog (fnV fn_ref12_Got) [.agg #[a], .int .i64 level, l] H Q := by
  apply S_ref12_Got_of
  unfold S_ref12_Got
  obtain ⟨hlev, hbs⟩ := levE_zero.1 he
  have hlv := lvl_get hlev
  have ha := ha.old
  have hb := hb.old
  refine newT_of fun H1 g1 _ => ?_
  refine loop_up bs.length (fun i s H' => G H H' ∧ ∃ b1 b2 v1 v2, Two H.size rBy rSee H' b1 b2 v1 v2 ((bs.map (bk d level)).take i) ((seesR d level bs).take i) ∧ s = [[v1], [v2], [.int .i64 (i : Int)]])
    ⟨g1, 0, 0, _, _, by simpa using Two.nil H.size rBy rSee H1, rfl⟩ ?_
  rintro i s H' K hi ⟨g, b1, b2, v1, v2, ht, rfl⟩ hK
  refine hb.len ?_
  try simp only [sv_cons, sv_cons1, sc_cons, sc_cons1, asB_bool, ifB_true, ifB_false, un_not, bin_lss, bin_leq, bin_gtr, bin_geq, bin_eql, bin_neq, bin_add, bin_sub, bin_mul, ok_int, ok_bool, ok_slice, ok_str, ok_ptr, ok_map, ok_func, ok_iface, ok_nil, List.all_cons, List.all_nil, Bool.and_true, Bool.true_and, seg, setSeg, List.drop_succ_cons, List.drop_zero, List.take_succ_cons, List.take_zero, List.cons_append, List.nil_append, List.append_nil, List.length_cons, List.length_nil, List.drop_nil, List.size_toArray, Nat.reduceAdd, Nat.reduceLeDiff, Nat.reduceBEq, Nat.zero_add, Nat.le_refl, decide_true, mkV, List.headD_cons, cellsV, w_fldV, w_ext, w_fldP, List.getElem?_toArray, List.getElem?_cons_zero, List.getElem?_cons_succ, beq_self_eq_true, selV]
  refine ifD_of (fun h1 => ?_) (fun h1 => ?_)
  · have hlt : i < bs.length := by omega
    have hx : bs[i]? = some bs[i] := List.getElem?_eq_getElem hlt
    have hbi := hbs _ (List.getElem_mem hlt)
    have hmid := mid_len hd (level := level)
    have hbk := bk_get hbi
    have tk1 : (bs.map (bk d level)).take (i + 1) = (bs.map (bk d level)).take i ++ [bk d level bs[i]] := by rw [List.take_add_one]; simp [hx]
    have tk2 : (seesR d level bs).take (i + 1) = (seesR d level bs).take i ++ [⟨1, level, bs[i], bk d level bs[i]⟩] := by rw [List.take_add_one]; simp [seesR, hx]
    have ln1 : ((bs.map (bk d level)).take i).length = i := by simp; omega
    have ln2 : ((seesR d level bs).take i).length = i := by simp [seesR]; omega
    have hs0 := g.size
    generalize bs[i] = bi at *
    refine (ha.g g).getSZ hlev.1 hlv fun w hw => (hb.g g).getI hx fun hwr => ?_
    try simp only [sv_cons, sv_cons1, sc_cons, sc_cons1, asB_bool, ifB_true, ifB_false, un_not, bin_lss, bin_leq, bin_gtr, bin_geq, bin_eql, bin_neq, bin_add, bin_sub, bin_mul, ok_int, ok_bool, ok_slice, ok_str, ok_ptr, ok_map, ok_func, ok_iface, ok_nil, List.all_cons, List.all_nil, Bool.and_true, Bool.true_and, seg, setSeg, List.drop_succ_cons, List.drop_zero, List.take_succ_cons, List.take_zero, List.cons_append, List.nil_append, List.append_nil, List.length_cons, List.length_nil, List.drop_nil, List.size_toArray, Nat.reduceAdd, Nat.reduceLeDiff, Nat.reduceBEq, Nat.zero_add, Nat.le_refl, decide_true, mkV, List.headD_cons, cellsV, w_fldV, w_ext, w_fldP, List.getElem?_toArray, List.getElem?_cons_zero, List.getElem?_cons_succ, beq_self_eq_true, selV]
    have hi64 := i64_wrap hwr
    rw [wrap_i64 (x := bi - 1) (by unfold i64; omega)]
    refine hw.getSZ (by omega) hbk fun u hu => ?_
    have hcl := mid_bk hd (level := level) (b := bi)
    refine clone_of hu rfl hcl fun w1 H2 c1 hw1 g2 hc1 hc1' => ?_
    have ht2 := ht.g g2
    have l1 := ht.o1.lt
    have l2 := ht.o2.lt
    have hs2 := g2.size
    refine ht2.push (vrep_by (hw1.slF (A' := fun y => y + 1 = c1) fun k hk => hk.symm)) rfl (by omega) (fun _ => rfl) rfl rfl (fun y hy _ => ⟨by omega, by omega, by omega⟩) (by omega) (by rw [ln1]; omega) (by rw [ln1]; omega)
      fun u1 H3 b1' ht3 hf3 => ?_
    have f1 := ht.f1
    have g3 : G H H3 := (g.trans g2).then hf3 fun y hy => show y + 1 ≠ b1 by omega
    have f2 := ht.f2
    have l3 := ht3.o1.lt
    have l4 := ht3.o2.lt
    have hs3 := hf3.size
    refine (hb.g g3).atI hx fun p hp _ => hp.load rfl ?_
    have q3 : Fr (fun y => y < H.size) H' H3 := Fr.trans g2 hf3 fun x _ (hx : x < H.size) => ⟨trivial, show x + 1 ≠ b1 by omega⟩
    refine bld_nil rU8 fun t H4 ht4 g4 s4 => ⟨(hp.g g4).load rfl rfl, ?_⟩
    have q4 : Fr (fun y => y < H.size) H' H4 := Fr.trans q3 g4 fun x _ hx => ⟨hx, trivial⟩
    refine clone_app ht4 (hu.up q4 fun y hy _ => ⟨hy, hy⟩) rfl hcl fun w2 H5 c2 hw2 hf5 hc2 => ?_
    have g5 : G H3 H5 := g4.then hf5 fun y hy => show y + 1 ≠ H3.size + 1 by omega
    have l5 := hw2.lt
    refine ⟨(hp.g g5).load rfl rfl, ?_⟩
    try simp only [sv_cons, sv_cons1, sc_cons, sc_cons1, asB_bool, ifB_true, ifB_false, un_not, bin_lss, bin_leq, bin_gtr, bin_geq, bin_eql, bin_neq, bin_add, bin_sub, bin_mul, ok_int, ok_bool, ok_slice, ok_str, ok_ptr, ok_map, ok_func, ok_iface, ok_nil, List.all_cons, List.all_nil, Bool.and_true, Bool.true_and, seg, setSeg, List.drop_succ_cons, List.drop_zero, List.take_succ_cons, List.take_zero, List.cons_append, List.nil_append, List.append_nil, List.length_cons, List.length_nil, List.drop_nil, List.size_toArray, Nat.reduceAdd, Nat.reduceLeDiff, Nat.reduceBEq, Nat.zero_add, Nat.le_refl, decide_true, mkV, List.headD_cons, cellsV, w_fldV, w_ext, w_fldP, List.getElem?_toArray, List.getElem?_cons_zero, List.getElem?_cons_succ, beq_self_eq_true, selV, hw2.okcv]
    refine bld_one (R := rSee) (vrep_see (H' := H5) (hw2.slF (A' := fun y => y + 1 = c2) fun k hk => hk.symm)) rfl (fun h => by cases h) rfl fun t2 H6 ht6 g6 s6 => ?_
    have g36 := g5.trans g6
    refine ⟨(hp.g g36).load rfl rfl, ?_⟩
    have hs36 := g36.size
    have hs5 := g5.size
    refine (ht3.g g36).swap.app ht6.src rfl (by omega) rfl (fun y hy _ => ⟨by omega, by omega, by omega⟩) (by omega) (by rw [ln2]; simp; omega) (by rw [ln2]; simp; omega) fun u2 H7 b2' ht7 hf7 => ?_
    refine ⟨((hp.g g36).up hf7 fun y hy _ => show y + 1 ≠ b2 by omega).load rfl rfl, ?_⟩
    try simp only [sv_cons, sv_cons1, sc_cons, sc_cons1, asB_bool, ifB_true, ifB_false, un_not, bin_lss, bin_leq, bin_gtr, bin_geq, bin_eql, bin_neq, bin_add, bin_sub, bin_mul, ok_int, ok_bool, ok_slice, ok_str, ok_ptr, ok_map, ok_func, ok_iface, ok_nil, List.all_cons, List.all_nil, Bool.and_true, Bool.true_and, seg, setSeg, List.drop_succ_cons, List.drop_zero, List.take_succ_cons, List.take_zero, List.cons_append, List.nil_append, List.append_nil, List.length_cons, List.length_nil, List.drop_nil, List.size_toArray, Nat.reduceAdd, Nat.reduceLeDiff, Nat.reduceBEq, Nat.zero_add, Nat.le_refl, decide_true, mkV, List.headD_cons, cellsV, w_fldV, w_ext, w_fldP, List.getElem?_toArray, List.getElem?_cons_zero, List.getElem?_cons_succ, beq_self_eq_true, selV]
    rw [wrap_i64 (by unfold i64; omega)]
    refine hK _ _ hlt ⟨(g3.trans g36).then hf7 fun y hy => show y + 1 ≠ b2 by omega, b1', b2', u1, u2, ?_, by simp⟩
    rw [tk1, tk2]
    exact ht7.swap
  · have : i = bs.length := by omega
    subst this
    rw [List.take_of_length_le (by simp), List.take_of_length_le (by simp [seesR])] at ht
    have f1 := ht.f1
    have f2 := ht.f2
    exact hQ v1 v2 H' (ht.o1.sl (fun y hy _ => hy.1) fun k hk => by omega) (ht.o2.sl (fun y hy _ => hy.1) fun k hk => by omega) g

abbrev tup3 (a b c : Value) : Value := .tuple #[a, b, c]

theorem c_ref12_Read {c : Cfg} {a l : Value} {d : Dv} {level : Int} {bs : List Int} (ha : Sl rBys H A a d) (hb : Sl (rI .i64) H B l bs) (hd : Mid d) (hl : bs.length ≤ 1000000)
    (hQ : ∀ v1 v2 H', Sl rBy H' (fun y => H.size ≤ y) v1 (if askE c d level bs = 0 then bs.map (bk d level) else []) → Sl rSee H' (fun y => H.size ≤ y) v2 (if askE c d level bs = 0 then seesR d level bs else []) → G H H' → Q (tup3 v1 v2 (.int .i64 (askE c d level bs))) H') :
    callV Try.prog (fnV fn_ref12_Read) [.agg (cCfg c).toArray, .agg #[a], .int .i64 level, l] H Q := by
  apply S_ref12_Read_of
  unfold S_ref12_Read
  have bad : ∀ e H', askE c d level bs = e → e ≠ 0 → G H H' → Q (tup3 (.slice none 0 0) (.slice none 0 0) (.int .i64 e)) H' := fun e H' he hne g => by
    have := hQ (.slice none 0 0) (.slice none 0 0) H' (by rw [he, if_neg hne]; exact Sl.nil _ _ _ _ _) (by rw [he, if_neg hne]; exact Sl.nil _ _ _ _ _) g
    rw [he] at this; exact this
  refine newT_of fun H1 g1 _ => newT_of fun H2 g2 _ => c_ref12_May (ha.g (g1.trans g2)) hd fun H3 g3 => ?_
  have g := (g1.trans g2).trans g3
  try simp only [sv_cons, sv_cons1, sc_cons, sc_cons1, asB_bool, ifB_true, ifB_false, un_not, bin_lss, bin_leq, bin_gtr, bin_geq, bin_eql, bin_neq, bin_add, bin_sub, bin_mul, ok_int, ok_bool, ok_slice, ok_str, ok_ptr, ok_map, ok_func, ok_iface, ok_nil, List.all_cons, List.all_nil, Bool.and_true, Bool.true_and, seg, setSeg, List.drop_succ_cons, List.drop_zero, List.take_succ_cons, List.take_zero, List.cons_append, List.nil_append, List.append_nil, List.length_cons, List.length_nil, List.drop_nil, List.size_toArray, Nat.reduceAdd, Nat.reduceLeDiff, Nat.reduceBEq, Nat.zero_add, Nat.le_refl, decide_true, mkV, List.headD_cons, cellsV, w_fldV, w_ext, w_fldP, List.getElem?_toArray, List.getElem?_cons_zero, List.getElem?_cons_succ, beq_self_eq_true, selV]
  cases hm : may c d with
  | false => exact bad 8 _ (by unfold askE; rw [hm]; rfl) (by omega) g
  | true =>
    have hask : askE c d level bs = levE d level bs := by unfold askE; rw [hm]; rfl
    simp only [Bool.not_true, ifB_false]
    refine c_ref12_asked (ha.g g) (hb.g g) (by omega) fun H4 g4 => ?_
    try simp only [sv_cons, sv_cons1, sc_cons, sc_cons1, asB_bool, ifB_true, ifB_false, un_not, bin_lss, bin_leq, bin_gtr, bin_geq, bin_eql, bin_neq, bin_add, bin_sub, bin_mul, ok_int, ok_bool, ok_slice, ok_str, ok_ptr, ok_map, ok_func, ok_iface, ok_nil, List.all_cons, List.all_nil, Bool.and_true, Bool.true_and, seg, setSeg, List.drop_succ_cons, List.drop_zero, List.take_succ_cons, List.take_zero, List.cons_append, List.nil_append, List.append_nil, List.length_cons, List.length_nil, List.drop_nil, List.size_toArray, Nat.reduceAdd, Nat.reduceLeDiff, Nat.reduceBEq, Nat.zero_add, Nat.le_refl, decide_true, mkV, List.headD_cons, cellsV, w_fldV, w_ext, w_fldP, List.getElem?_toArray, List.getElem?_cons_zero, List.getElem?_cons_succ, beq_self_eq_true, selV]
    by_cases he : levE d level bs = 0
    · rw [decide_eq_true he]
      simp only [Bool.not_true, ifB_false]
      have g5 := g.trans g4
      refine c_ref12_Got (ha.g g5) (hb.g g5) hd hl he fun v1 v2 H5 h1 h2 g6 => ?_
      try simp only [sv_cons, sv_cons1, sc_cons, sc_cons1, asB_bool, ifB_true, ifB_false, un_not, bin_lss, bin_leq, bin_gtr, bin_geq, bin_eql, bin_neq, bin_add, bin_sub, bin_mul, ok_int, ok_bool, ok_slice, ok_str, ok_ptr, ok_map, ok_func, ok_iface, ok_nil, List.all_cons, List.all_nil, Bool.and_true, Bool.true_and, seg, setSeg, List.drop_succ_cons, List.drop_zero, List.take_succ_cons, List.take_zero, List.cons_append, List.nil_append, List.append_nil, List.length_cons, List.length_nil, List.drop_nil, List.size_toArray, Nat.reduceAdd, Nat.reduceLeDiff, Nat.reduceBEq, Nat.zero_add, Nat.le_refl, decide_true, mkV, List.headD_cons, cellsV, w_fldV, w_ext, w_fldP, List.getElem?_toArray, List.getElem?_cons_zero, List.getElem?_cons_succ, beq_self_eq_true, selV]
      have hs := g5.size
      have := hQ v1 v2 H5 (by rw [hask, if_pos he]; exact h1.mono fun y hy _ => by omega) (by rw [hask, if_pos he]; exact h2.mono fun y hy _ => by omega) (g5.trans g6)
      rw [hask, he] at this; exact this
    · rw [decide_eq_false he]
      have h2 : levE d level bs = 2 := by unfold levE at he ⊢; split; rfl; split; rfl; simp_all
      exact bad 2 _ (by rw [hask, h2]) (by omega) (g.trans g4)

/-! ### Writing -/

theorem lvlOf_put {d : Dv} {level b : Int} {x : By} (h : 0 ≤ level ∧ level < d.length) : lvlOf (putB d level b x) level = (lvlOf d level).set (b - 1).toNat x := by
  unfold putB
  conv => lhs; unfold lvlOf
  rw [List.getD_eq_getElem?_getD, List.getElem?_set]
  simp only [if_true]
  rw [if_pos (by omega)]; rfl
theorem len_put {d : Dv} {level b : Int} {x : By} : (putB d level b x).length = d.length := by unfold putB; simp

/-- The first of what is written. -/
theorem putAll_snoc {level : Int} : ∀ {l : List Int} {all : List By} {d : Dv} {b : Int} {x : By}, l.length = all.length → putAll d level (l ++ [b]) (all ++ [x]) = putB (putAll d level l all) level b x
  | [], [], d, b, x, _ => rfl
  | b' :: l, x' :: all, d, b, x, h => by
    show putAll (putB d level b' x') level (l ++ [b]) (all ++ [x]) = _
    rw [putAll_snoc (by simpa using h)]; rfl
  | [], _ :: _, _, _, _, h => by simp at h
  | _ :: _, [], _, _, _, h => by simp at h
theorem seesW_snoc {level : Int} : ∀ {l : List Int} {all : List By} {b : Int} {x : By}, l.length = all.length → seesW level (l ++ [b]) (all ++ [x]) = seesW level l all ++ [⟨2, level, b, x⟩]
  | [], [], b, x, _ => rfl
  | b' :: l, x' :: all, b, x, h => by
    show _ :: seesW level (l ++ [b]) (all ++ [x]) = _
    rw [seesW_snoc (by simpa using h)]; rfl
  | [], _ :: _, _, _, h => by simp at h
  | _ :: _, [], _, _, h => by simp at h
theorem seesW_len {level : Int} : ∀ {l : List Int} {all : List By}, l.length = all.length → (seesW level l all).length = l.length
  | [], [], _ => rfl
  | _ :: l, _ :: all, h => by simp [seesW, seesW_len (l := l) (all := all) (by simpa using h)]
  | [], _ :: _, h => by simp at h
  | _ :: _, [], h => by simp at h
theorem putAll_len {level : Int} : ∀ {l : List Int} {all : List By} {d : Dv}, (putAll d level l all).length = d.length
  | [], [], d => rfl
  | b' :: l, x' :: all, d => by
    show (putAll (putB d level b' x') level l all).length = _
    rw [putAll_len, len_put]
  | [], _ :: _, _ => rfl
  | _ :: _, [], _ => rfl
theorem putAll_lvl {level : Int} : ∀ {l : List Int} {all : List By} {d : Dv}, (0 ≤ level ∧ level < d.length) → (lvlOf (putAll d level l all) level).length = (lvlOf d level).length
  | [], [], d, _ => rfl
  | b' :: l, x' :: all, d, h => by
    show (lvlOf (putAll (putB d level b' x') level l all) level).length = _
    rw [putAll_lvl (by rw [len_put]; exact h), lvlOf_put h]; simp
  | [], _ :: _, _, _ => rfl
  | _ :: _, [], _, _ => rfl

theorem c_ref12_Put {a l w : Value} {d : Dv} {level : Int} {bs : List Int} {all : List By} (ha : Sl rBys H A a d) (hb : Sl (rI .i64) H B l bs) (hw : Sl rBy H C w all) (hd : Mid d) (hl : bs.length ≤ 1000000) (hla : all.length = bs.length)
    (hlb : ∀ x ∈ all, x.length ≤ 1000000) (he : levE d level bs = 0)
    (hQ : ∀ v1 v2 H', Sl rBys H' (fun y => H.size ≤ y) v1 (putAll d level bs all) → Sl rSee H' (fun y => H.size ≤ y) v2 (seesW level bs all) → G H H' → Q (tup2 (.agg #[v1]) v2) H') :
    callV Try.prog (fnV fn_ref12_Put) [.agg #[a], .int .i64 level, l, w] H Q := by
  apply S_ref12_Put_of
  unfold S_ref12_Put
  obtain ⟨hlev, hbs⟩ := levE_zero.1 he
  have ha := ha.old
  have hb := hb.old
  have hw := hw.old
  refine newT_of fun H1 g1 _ => newT_of fun H2 g2 _ => c_ref12_Twin (ha.g (g1.trans g2)) hd fun v H3 hc => newT_of fun H4 g4 _ => ?_
  have hc := hc.of (g1.trans g2)
  obtain ⟨O, F, hdv, hOF⟩ := hc.out
  have gg := hc.g.trans g4
  try simp only [sv_cons, sv_cons1, sc_cons, sc_cons1, asB_bool, ifB_true, ifB_false, un_not, bin_lss, bin_leq, bin_gtr, bin_geq, bin_eql, bin_neq, bin_add, bin_sub, bin_mul, ok_int, ok_bool, ok_slice, ok_str, ok_ptr, ok_map, ok_func, ok_iface, ok_nil, List.all_cons, List.all_nil, Bool.and_true, Bool.true_and, seg, setSeg, List.drop_succ_cons, List.drop_zero, List.take_succ_cons, List.take_zero, List.cons_append, List.nil_append, List.append_nil, List.length_cons, List.length_nil, List.drop_nil, List.size_toArray, Nat.reduceAdd, Nat.reduceLeDiff, Nat.reduceBEq, Nat.zero_add, Nat.le_refl, decide_true, mkV, List.headD_cons, cellsV, w_fldV, w_ext, w_fldP, List.getElem?_toArray, List.getElem?_cons_zero, List.getElem?_cons_succ, beq_self_eq_true, selV, hdv.okcv]
  refine loop_up bs.length (fun i s H' => G H H' ∧ ∃ F b vs, Wt H.size H' O F v (putAll d level (bs.take i) (all.take i)) b vs (seesW level (bs.take i) (all.take i)) ∧ s = [[vs], [.int .i64 (i : Int)]])
    ⟨gg, F, 0, _, ⟨by simpa [putAll] using hdv.g g4, by simpa [seesW] using Ow.nil rSee H4 _, fun y hy => by have := hOF y hy; have := g4.size; omega, .inl rfl⟩, rfl⟩ ?_
  rintro i s H' K hi ⟨g, F, b, vs, ht, rfl⟩ hK
  refine (hb.g g).len ?_
  try simp only [sv_cons, sv_cons1, sc_cons, sc_cons1, asB_bool, ifB_true, ifB_false, un_not, bin_lss, bin_leq, bin_gtr, bin_geq, bin_eql, bin_neq, bin_add, bin_sub, bin_mul, ok_int, ok_bool, ok_slice, ok_str, ok_ptr, ok_map, ok_func, ok_iface, ok_nil, List.all_cons, List.all_nil, Bool.and_true, Bool.true_and, seg, setSeg, List.drop_succ_cons, List.drop_zero, List.take_succ_cons, List.take_zero, List.cons_append, List.nil_append, List.append_nil, List.length_cons, List.length_nil, List.drop_nil, List.size_toArray, Nat.reduceAdd, Nat.reduceLeDiff, Nat.reduceBEq, Nat.zero_add, Nat.le_refl, decide_true, mkV, List.headD_cons, cellsV, w_fldV, w_ext, w_fldP, List.getElem?_toArray, List.getElem?_cons_zero, List.getElem?_cons_succ, beq_self_eq_true, selV]
  refine ifD_of (fun h1 => ?_) (fun h1 => ?_)
  · have hlt : i < bs.length := by omega
    have hx : bs[i]? = some bs[i] := List.getElem?_eq_getElem hlt
    have hy : all[i]? = some (all[i]'(by omega)) := List.getElem?_eq_getElem _
    have hbi := hbs _ (List.getElem_mem hlt)
    have hxl := hlb _ (List.getElem_mem (l := all) (n := i) (by omega))
    have htl : (bs.take i).length = (all.take i).length := by simp; omega
    have t1 : bs.take (i + 1) = bs.take i ++ [bs[i]] := List.take_succ_eq_append_getElem hlt
    have tk2 : all.take (i + 1) = all.take i ++ [all[i]'(by omega)] := List.take_succ_eq_append_getElem (by omega)
    have hmid := mid_len hd (level := level)
    have hs0 := g.size
    generalize bs[i] = bi at *
    generalize all[i]'(by omega) = x at *
    have hlv1 : 0 ≤ level ∧ level < (putAll d level (bs.take i) (all.take i)).length := by rw [putAll_len]; exact hlev
    have hpl := putAll_lvl (level := level) (l := bs.take i) (all := all.take i) (d := d) hlev
    have hdi := lvl_get hlv1
    obtain ⟨wl, hr1, hr2, _, hput⟩ := ht.dv.getZ hlev.1 hdi
    refine hr1 _ _ fun p hp => hp.load rfl ?_
    refine (hb.g g).atI hx fun q hq hqw => hq.load rfl ?_
    have hi64 := i64_wrap hqw
    try simp only [sv_cons, sv_cons1, sc_cons, sc_cons1, asB_bool, ifB_true, ifB_false, un_not, bin_lss, bin_leq, bin_gtr, bin_geq, bin_eql, bin_neq, bin_add, bin_sub, bin_mul, ok_int, ok_bool, ok_slice, ok_str, ok_ptr, ok_map, ok_func, ok_iface, ok_nil, List.all_cons, List.all_nil, Bool.and_true, Bool.true_and, seg, setSeg, List.drop_succ_cons, List.drop_zero, List.take_succ_cons, List.take_zero, List.cons_append, List.nil_append, List.append_nil, List.length_cons, List.length_nil, List.drop_nil, List.size_toArray, Nat.reduceAdd, Nat.reduceLeDiff, Nat.reduceBEq, Nat.zero_add, Nat.le_refl, decide_true, mkV, List.headD_cons, cellsV, w_fldV, w_ext, w_fldP, List.getElem?_toArray, List.getElem?_cons_zero, List.getElem?_cons_succ, beq_self_eq_true, selV]
    rw [wrap_i64 (x := bi - 1) (by unfold i64; omega)]
    refine (hw.g g).atS hy fun r u hr hu => hr.load rfl ?_
    refine bld_nil rU8 fun t H5 ht5 g5 s5 => ⟨(hr.g g5).load rfl rfl, (hq.g g5).load rfl rfl, (hp.g g5).load rfl rfl, ?_⟩
    refine clone_app ht5 (hu.g g5) rfl hxl fun w1 H6 c1 hw1 hf6 hc1 => ?_
    have g6 : G H' H6 := g5.then hf6 fun y hy => show y + 1 ≠ H'.size + 1 by omega
    have l6 := hw1.lt
    refine ⟨(hq.g g6).load rfl rfl, (hp.g g6).load rfl rfl, ?_⟩
    obtain ⟨ht6, hlf⟩ := ht.leaf hs0 g6 hw1 (by omega)
    refine hput H6 _ g6.fr (fun y hy => .inl hy) ht6.dv.dis w1 x (bi - 1) _ _ hlf (by omega) (by omega) fun H7 hd7 hf7 hs7 => ?_
    have ht7 := ht6.put (d' := putB (putAll d level (bs.take i) (all.take i)) level bi x) hd7 hf7 hs7
    have hO : ∀ y, O y → H.size ≤ y := fun y hy => (ht.inO y (.inl hy)).1
    have g7 : G H H7 := (g.trans g6).then hf7 fun y hy => show ¬ O y from fun h => by have := hO y h; omega
    refine (hb.g g7).atI hx fun q2 hq2 _ => hq2.load rfl ?_
    refine (hw.g g7).atS hy fun r2 u2 hr2' hu2 => hr2'.load rfl ?_
    refine bld_nil rU8 fun t2 H8 ht8 g8 s8 => ⟨(hr2'.g g8).load rfl rfl, (hq2.g g8).load rfl rfl, ?_⟩
    refine clone_app ht8 (hu2.g g8) rfl hxl fun w2 H9 c2 hw2 hf9 hc2 => ?_
    have g9 : G H7 H9 := g8.then hf9 fun y hy => show y + 1 ≠ H7.size + 1 by omega
    have l9 := hw2.lt
    have hs9 := g9.size
    have hs6 := g6.size
    refine ⟨(hq2.g g9).load rfl rfl, ?_⟩
    try simp only [sv_cons, sv_cons1, sc_cons, sc_cons1, asB_bool, ifB_true, ifB_false, un_not, bin_lss, bin_leq, bin_gtr, bin_geq, bin_eql, bin_neq, bin_add, bin_sub, bin_mul, ok_int, ok_bool, ok_slice, ok_str, ok_ptr, ok_map, ok_func, ok_iface, ok_nil, List.all_cons, List.all_nil, Bool.and_true, Bool.true_and, seg, setSeg, List.drop_succ_cons, List.drop_zero, List.take_succ_cons, List.take_zero, List.cons_append, List.nil_append, List.append_nil, List.length_cons, List.length_nil, List.drop_nil, List.size_toArray, Nat.reduceAdd, Nat.reduceLeDiff, Nat.reduceBEq, Nat.zero_add, Nat.le_refl, decide_true, mkV, List.headD_cons, cellsV, w_fldV, w_ext, w_fldP, List.getElem?_toArray, List.getElem?_cons_zero, List.getElem?_cons_succ, beq_self_eq_true, selV, hw2.okcv]
    have ht9 := ht7.g g9
    have hbl := ht7.ss.lt
    have hls := seesW_len (level := level) htl
    have hlb := (show (bs.take i).length = i by simp; omega)
    refine ht7.see (by omega) g9 hw2 (by omega) rfl rfl (by omega) (by omega) (fun t H X => loadP false 1 q2 H (fun u43 => u43 = .int .i64 bi) ∧ X) (fun t H X g hX => ⟨(hq2.g (g9.trans g)).load rfl rfl, hX⟩) fun u3 H11 H10 b' ht11 g10 hf11 => ?_
    have g79 := g9.trans g10
    have hfb := ht7.fb
    refine ⟨((hq2.g g79).up hf11 fun y hy _ => show y + 1 ≠ b by omega).load rfl rfl, ?_⟩
    try simp only [sv_cons, sv_cons1, sc_cons, sc_cons1, asB_bool, ifB_true, ifB_false, un_not, bin_lss, bin_leq, bin_gtr, bin_geq, bin_eql, bin_neq, bin_add, bin_sub, bin_mul, ok_int, ok_bool, ok_slice, ok_str, ok_ptr, ok_map, ok_func, ok_iface, ok_nil, List.all_cons, List.all_nil, Bool.and_true, Bool.true_and, seg, setSeg, List.drop_succ_cons, List.drop_zero, List.take_succ_cons, List.take_zero, List.cons_append, List.nil_append, List.append_nil, List.length_cons, List.length_nil, List.drop_nil, List.size_toArray, Nat.reduceAdd, Nat.reduceLeDiff, Nat.reduceBEq, Nat.zero_add, Nat.le_refl, decide_true, mkV, List.headD_cons, cellsV, w_fldV, w_ext, w_fldP, List.getElem?_toArray, List.getElem?_cons_zero, List.getElem?_cons_succ, beq_self_eq_true, selV]
    rw [wrap_i64 (by unfold i64; omega)]
    refine hK _ _ hlt ⟨(g7.trans g79).then hf11 fun y hy => show y + 1 ≠ b by omega, fun y => F y ∨ y + 1 = c1, b', u3, ?_, by simp⟩
    rw [t1, tk2, putAll_snoc htl, seesW_snoc htl]
    exact ht11
  · have : i = bs.length := by omega
    subst this
    rw [List.take_length, ← hla, List.take_length] at ht
    try simp only [sv_cons, sv_cons1, sc_cons, sc_cons1, asB_bool, ifB_true, ifB_false, un_not, bin_lss, bin_leq, bin_gtr, bin_geq, bin_eql, bin_neq, bin_add, bin_sub, bin_mul, ok_int, ok_bool, ok_slice, ok_str, ok_ptr, ok_map, ok_func, ok_iface, ok_nil, List.all_cons, List.all_nil, Bool.and_true, Bool.true_and, seg, setSeg, List.drop_succ_cons, List.drop_zero, List.take_succ_cons, List.take_zero, List.cons_append, List.nil_append, List.append_nil, List.length_cons, List.length_nil, List.drop_nil, List.size_toArray, Nat.reduceAdd, Nat.reduceLeDiff, Nat.reduceBEq, Nat.zero_add, Nat.le_refl, decide_true, mkV, List.headD_cons, cellsV, w_fldV, w_ext, w_fldP, List.getElem?_toArray, List.getElem?_cons_zero, List.getElem?_cons_succ, beq_self_eq_true, selV, ht.dv.okcv]
    exact hQ v vs H' (ht.dv.sl fun y hy => (ht.inO y hy).1) (ht.ss.sl (fun y hy _ => hy.1) fun k hk => by have := ht.fb; omega) g

/-- What a device is, as an answer. -/
theorem c_ref12_Write {c : Cfg} {a l w : Value} {d : Dv} {level : Int} {bs : List Int} {all : List By} (ha : Sl rBys H A a d) (hb : Sl (rI .i64) H B l bs) (hw : Sl rBy H C w all) (hd : Mid d) (hl : bs.length ≤ 1000000)
    (hl2 : all.length ≤ 1000000) (hlb : ∀ x ∈ all, x.length ≤ 1000000)
    (hQ : ∀ v1 v2 H', Sl rBys H' (fun y => H.size ≤ y) v1 (if wrE c d level bs all = 0 then putAll d level bs all else []) → Sl rSee H' (fun y => H.size ≤ y) v2 (if wrE c d level bs all = 0 then seesW level bs all else []) → G H H' →
      Q (tup3 (.agg #[v1]) v2 (.int .i64 (wrE c d level bs all))) H') :
    callV Try.prog (fnV fn_ref12_Write) [.agg (cCfg c).toArray, .agg #[a], .int .i64 level, l, w] H Q := by
  apply S_ref12_Write_of
  unfold S_ref12_Write
  have bad : ∀ e H', wrE c d level bs all = e → e ≠ 0 → G H H' → Q (tup3 (.agg #[.slice none 0 0]) (.slice none 0 0) (.int .i64 e)) H' := fun e H' he hne g => by
    have := hQ (.slice none 0 0) (.slice none 0 0) H' (by rw [he, if_neg hne]; exact Sl.nil _ _ _ _ _) (by rw [he, if_neg hne]; exact Sl.nil _ _ _ _ _) g
    rw [he] at this; exact this
  refine newT_of fun H1 g1 _ => newT_of fun H2 g2 _ => newT_of fun H3 g3 _ => c_ref12_May (ha.g ((g1.trans g2).trans g3)) hd fun H4 g4 => ?_
  have g := ((g1.trans g2).trans g3).trans g4
  try simp only [sv_cons, sv_cons1, sc_cons, sc_cons1, asB_bool, ifB_true, ifB_false, un_not, bin_lss, bin_leq, bin_gtr, bin_geq, bin_eql, bin_neq, bin_add, bin_sub, bin_mul, ok_int, ok_bool, ok_slice, ok_str, ok_ptr, ok_map, ok_func, ok_iface, ok_nil, List.all_cons, List.all_nil, Bool.and_true, Bool.true_and, seg, setSeg, List.drop_succ_cons, List.drop_zero, List.take_succ_cons, List.take_zero, List.cons_append, List.nil_append, List.append_nil, List.length_cons, List.length_nil, List.drop_nil, List.size_toArray, Nat.reduceAdd, Nat.reduceLeDiff, Nat.reduceBEq, Nat.zero_add, Nat.le_refl, decide_true, mkV, List.headD_cons, cellsV, w_fldV, w_ext, w_fldP, List.getElem?_toArray, List.getElem?_cons_zero, List.getElem?_cons_succ, beq_self_eq_true, selV]
  cases hm : may c d with
  | false => exact bad 8 _ (by unfold wrE askE; rw [hm]; rfl) (by omega) g
  | true =>
    have hask : askE c d level bs = levE d level bs := by unfold askE; rw [hm]; rfl
    have hlE : levE d level bs = 0 ∨ levE d level bs = 2 := by unfold levE; split; exact .inr rfl; split; exact .inr rfl; exact .inl rfl
    simp only [Bool.not_true, ifB_false]
    refine join_of (fun s H' => G H H' ∧ s = [[.bool (decide (levE d level bs ≠ 0 ∨ all.length ≠ bs.length))]]) (fun K hK => ?_) ?_
    · refine c_ref12_asked (ha.g g) (hb.g g) (by omega) fun H5 g5 => ?_
      have g5 := g.trans g5
      try simp only [sv_cons, sv_cons1, sc_cons, sc_cons1, asB_bool, ifB_true, ifB_false, un_not, bin_lss, bin_leq, bin_gtr, bin_geq, bin_eql, bin_neq, bin_add, bin_sub, bin_mul, ok_int, ok_bool, ok_slice, ok_str, ok_ptr, ok_map, ok_func, ok_iface, ok_nil, List.all_cons, List.all_nil, Bool.and_true, Bool.true_and, seg, setSeg, List.drop_succ_cons, List.drop_zero, List.take_succ_cons, List.take_zero, List.cons_append, List.nil_append, List.append_nil, List.length_cons, List.length_nil, List.drop_nil, List.size_toArray, Nat.reduceAdd, Nat.reduceLeDiff, Nat.reduceBEq, Nat.zero_add, Nat.le_refl, decide_true, mkV, List.headD_cons, cellsV, w_fldV, w_ext, w_fldP, List.getElem?_toArray, List.getElem?_cons_zero, List.getElem?_cons_succ, beq_self_eq_true, selV]
      by_cases he : levE d level bs = 0
      · rw [decide_eq_true he]
        simp only [Bool.not_true, ifB_false]
        refine hw.len (hb.len ?_)
        try simp only [sv_cons, sv_cons1, sc_cons, sc_cons1, asB_bool, ifB_true, ifB_false, un_not, bin_lss, bin_leq, bin_gtr, bin_geq, bin_eql, bin_neq, bin_add, bin_sub, bin_mul, ok_int, ok_bool, ok_slice, ok_str, ok_ptr, ok_map, ok_func, ok_iface, ok_nil, List.all_cons, List.all_nil, Bool.and_true, Bool.true_and, seg, setSeg, List.drop_succ_cons, List.drop_zero, List.take_succ_cons, List.take_zero, List.cons_append, List.nil_append, List.append_nil, List.length_cons, List.length_nil, List.drop_nil, List.size_toArray, Nat.reduceAdd, Nat.reduceLeDiff, Nat.reduceBEq, Nat.zero_add, Nat.le_refl, decide_true, mkV, List.headD_cons, cellsV, w_fldV, w_ext, w_fldP, List.getElem?_toArray, List.getElem?_cons_zero, List.getElem?_cons_succ, beq_self_eq_true, selV]
        exact hK _ _ ⟨g5, jb_d (by omega)⟩
      · rw [decide_eq_false he]
        exact hK _ _ ⟨g5, jb_t (.inl he)⟩
    rintro s H' ⟨g, rfl⟩
    try simp only [sv_cons, sv_cons1, sc_cons, sc_cons1, asB_bool, ifB_true, ifB_false, un_not, bin_lss, bin_leq, bin_gtr, bin_geq, bin_eql, bin_neq, bin_add, bin_sub, bin_mul, ok_int, ok_bool, ok_slice, ok_str, ok_ptr, ok_map, ok_func, ok_iface, ok_nil, List.all_cons, List.all_nil, Bool.and_true, Bool.true_and, seg, setSeg, List.drop_succ_cons, List.drop_zero, List.take_succ_cons, List.take_zero, List.cons_append, List.nil_append, List.append_nil, List.length_cons, List.length_nil, List.drop_nil, List.size_toArray, Nat.reduceAdd, Nat.reduceLeDiff, Nat.reduceBEq, Nat.zero_add, Nat.le_refl, decide_true, mkV, List.headD_cons, cellsV, w_fldV, w_ext, w_fldP, List.getElem?_toArray, List.getElem?_cons_zero, List.getElem?_cons_succ, beq_self_eq_true, selV]
    refine ifD_of (fun h1 => bad 2 _ ?_ (by omega) g) (fun h1 => ?_)
    · unfold wrE
      rw [hask]
      rcases hlE with h | h
      · rw [if_neg (by omega), if_pos (.inl (by omega))]
      · rw [if_pos (by omega), h]
    have he : levE d level bs = 0 := by omega
    have hlen : all.length = bs.length := by omega
    obtain ⟨hlev, hbs⟩ := levE_zero.1 he
    have hlv := lvl_get hlev
    have hpos := may_pos hm hlv
    have hb0 : (lvlOf d level)[0]? = some (bk d level 1) := bk_get (b := 1) ⟨by omega, by omega⟩
    have ewr : wrE c d level bs all = if all.any (fun b => (b.length : Int) != bkSize d level) then 2 else 0 := by
      unfold wrE
      rw [hask, if_neg (by omega)]
      cases all.any (fun b => (b.length : Int) != bkSize d level) with
      | true => rw [if_pos (.inr rfl)]; rfl
      | false => rw [if_neg (by simp; exact hlen)]; rfl
    refine loop_up all.length (fun i s H'' => H'' = H' ∧ s = [[.slice none 0 0], [.int .i64 (i : Int)]] ∧ ∀ b ∈ all.take i, (b.length : Int) = bkSize d level) ⟨rfl, rfl, by simp⟩ ?_
    rintro i s H'' K hi ⟨rfl, rfl, hin⟩ hK
    refine hw.len ?_
    try simp only [sv_cons, sv_cons1, sc_cons, sc_cons1, asB_bool, ifB_true, ifB_false, un_not, bin_lss, bin_leq, bin_gtr, bin_geq, bin_eql, bin_neq, bin_add, bin_sub, bin_mul, ok_int, ok_bool, ok_slice, ok_str, ok_ptr, ok_map, ok_func, ok_iface, ok_nil, List.all_cons, List.all_nil, Bool.and_true, Bool.true_and, seg, setSeg, List.drop_succ_cons, List.drop_zero, List.take_succ_cons, List.take_zero, List.cons_append, List.nil_append, List.append_nil, List.length_cons, List.length_nil, List.drop_nil, List.size_toArray, Nat.reduceAdd, Nat.reduceLeDiff, Nat.reduceBEq, Nat.zero_add, Nat.le_refl, decide_true, mkV, List.headD_cons, cellsV, w_fldV, w_ext, w_fldP, List.getElem?_toArray, List.getElem?_cons_zero, List.getElem?_cons_succ, beq_self_eq_true, selV]
    refine ifD_of (fun h2 => ?_) (fun h2 => ?_)
    · have hlt : i < all.length := by omega
      have hx : all[i]? = some all[i] := List.getElem?_eq_getElem hlt
      refine (hw.g g).getS hx fun u hu => hu.len ?_
      refine (ha.g g).getSZ hlev.1 hlv fun u2 hu2 => ?_
      refine hu2.getSZ (z := 0) (by omega) hb0 fun u3 hu3 => hu3.len ?_
      try simp only [sv_cons, sv_cons1, sc_cons, sc_cons1, asB_bool, ifB_true, ifB_false, un_not, bin_lss, bin_leq, bin_gtr, bin_geq, bin_eql, bin_neq, bin_add, bin_sub, bin_mul, ok_int, ok_bool, ok_slice, ok_str, ok_ptr, ok_map, ok_func, ok_iface, ok_nil, List.all_cons, List.all_nil, Bool.and_true, Bool.true_and, seg, setSeg, List.drop_succ_cons, List.drop_zero, List.take_succ_cons, List.take_zero, List.cons_append, List.nil_append, List.append_nil, List.length_cons, List.length_nil, List.drop_nil, List.size_toArray, Nat.reduceAdd, Nat.reduceLeDiff, Nat.reduceBEq, Nat.zero_add, Nat.le_refl, decide_true, mkV, List.headD_cons, cellsV, w_fldV, w_ext, w_fldP, List.getElem?_toArray, List.getElem?_cons_zero, List.getElem?_cons_succ, beq_self_eq_true, selV]
      refine ifD_of (fun h3 => bad 2 _ ?_ (by omega) g) (fun h3 => ?_)
      · rw [ewr, if_pos]
        rw [List.any_eq_true]
        exact ⟨all[i], List.getElem_mem hlt, by unfold bkSize; simpa using h3⟩
      · rw [wrap_i64 (by unfold i64; omega)]
        refine hK _ _ hlt ⟨rfl, by simp, fun b hb' => ?_⟩
        rw [List.take_succ_eq_append_getElem hlt, List.mem_append, List.mem_singleton] at hb'
        rcases hb' with h | rfl
        · exact hin b h
        · unfold bkSize; omega
    · have : i = all.length := by omega
      subst this
      rw [List.take_length] at hin
      have e0 : wrE c d level bs all = 0 := by
        rw [ewr, if_neg]
        simp only [List.any_eq_true, not_exists, not_and, bne_iff_ne, ne_eq, Decidable.not_not]
        exact hin
      refine c_ref12_Put (ha.g g) (hb.g g) (hw.g g) hd hl hlen hlb he fun v1 v2 H5 h1 h2 g5 => ?_
      have hs := g.size
      have := hQ v1 v2 _ (by rw [e0, if_pos rfl]; exact (h1.mono fun y hy _ => by omega).g (G.push _ tomb)) (by rw [e0, if_pos rfl]; exact (h2.mono fun y hy _ => by omega).g (G.push _ tomb)) ((g.trans g5).trans (G.push _ tomb))
      rw [e0] at this
      have hok := h1.okcv
      unfold newT
      try simp only [sv_cons, sv_cons1, sc_cons, sc_cons1, asB_bool, ifB_true, ifB_false, un_not, bin_lss, bin_leq, bin_gtr, bin_geq, bin_eql, bin_neq, bin_add, bin_sub, bin_mul, ok_int, ok_bool, ok_slice, ok_str, ok_ptr, ok_map, ok_func, ok_iface, ok_nil, List.all_cons, List.all_nil, Bool.and_true, Bool.true_and, seg, setSeg, List.drop_succ_cons, List.drop_zero, List.take_succ_cons, List.take_zero, List.cons_append, List.nil_append, List.append_nil, List.length_cons, List.length_nil, List.drop_nil, List.size_toArray, Nat.reduceAdd, Nat.reduceLeDiff, Nat.reduceBEq, Nat.zero_add, Nat.le_refl, decide_true, mkV, List.headD_cons, cellsV, w_fldV, w_ext, w_fldP, List.getElem?_toArray, List.getElem?_cons_zero, List.getElem?_cons_succ, beq_self_eq_true, selV, hok]
      exact this

end Go.Proofs.Ytikebhnnmnlgaaa
