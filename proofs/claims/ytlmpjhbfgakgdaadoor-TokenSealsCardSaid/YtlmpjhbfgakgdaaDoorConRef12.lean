/- Contracts: bytes and devices, as the references have them. -/
import Derived.Test.YtlmpjhbfgakgdaaDoorConRef08
import Derived.Test.YtlmpjhbfgakgdaaDoorShDev
import Derived.Test.YtlmpjhbfgakgdaaDoorShRef12
import Derived.Test.YtlmpjhbfgakgdaaDoorMdDev
namespace Go.Proofs.YtlmpjhbfgakgdaaDoor
open Go.Ab Go.Md
set_option linter.unusedVariables false
set_option linter.unusedSimpArgs false
set_option maxRecDepth 20000

variable {H : Heap} {Q : Value → Heap → Prop} {A B : Nat → Prop}

theorem take_eq_step {α : Type} {xs ys : List α} {i : Nat} (hx : i < xs.length) (hy : i < ys.length) (h : xs.take i = ys.take i) (he : xs[i] = ys[i]) : xs.take (i + 1) = ys.take (i + 1) := by
  rw [List.take_succ_eq_append_getElem hx, List.take_succ_eq_append_getElem hy, h, he]

theorem c_ref01_Same {a b : Value} {xs ys : By} (ha : Sl rU8 H A a xs) (hb : Sl rU8 H B b ys) (hQ : Q (.bool (decide (xs = ys))) H) : callV Tryd.prog (fnV fn_ref01_Same) [a, b] H Q := by
  apply S_ref01_Same_of
  unfold S_ref01_Same
  refine ha.str (hb.str ?_)
  simp only [bin_streq]
  exact hQ

/-! ### How great a device is -/

theorem w_min {q q' : IntKind} {a b : Int} {k : Value → Prop} : minV (.int q a) (.int q' b) k = k (.int q (if b < a then b else a)) := rfl

theorem c_ref12_Great {a : Value} {d : Dv} (ha : Sl rBys H A a d) (hQ : ∀ b H', (b = false → Small d) → G H H' → Q (.bool b) H') : callV Tryd.prog (fnV fn_ref12_Great) [.agg #[a]] H Q := by
  apply S_ref12_Great_of
  unfold S_ref12_Great
  refine newT_of fun H1 g1 _ => ?_
  have hQ := fun b hb => hQ b H1 hb g1
  have ha := ha.g g1
  refine loop_up 10 (fun i s H' => H' = H1 ∧ ∃ n : Int, s = [[.int .i64 n], [.int .i64 (i : Int)]] ∧ 0 ≤ n ∧ n ≤ i * 20000000 ∧ ∀ j x, j < i → d[j]? = some x → x.length ≤ 150 ∧ ∀ b ∈ x, (if (100000 : Int) < b.length then 100000 else (b.length : Int)) ≤ n)
    ⟨rfl, 0, rfl, by omega, by omega, fun j x h => by omega⟩ ?_
  rintro i s H' K hi ⟨rfl, n, rfl, hn0, hn1, hin⟩ hK
  refine join_of (fun s H'' => H'' = H' ∧ s = [[.bool (decide (i < d.length ∧ i < 10))]]) (fun K' hK' => ?_) ?_
  · refine ha.len ?_
    try simp only [sv_cons, sv_cons1, sc_cons, sc_cons1, asB_bool, ifB_true, ifB_false, un_not, bin_lss, bin_leq, bin_gtr, bin_geq, bin_eql, bin_neq, bin_add, bin_sub, bin_mul, ok_int, ok_bool, ok_slice, ok_str, ok_ptr, ok_map, ok_func, ok_iface, ok_nil, List.all_cons, List.all_nil, Bool.and_true, Bool.true_and, seg, setSeg, List.drop_succ_cons, List.drop_zero, List.take_succ_cons, List.take_zero, List.cons_append, List.nil_append, List.append_nil, List.length_cons, List.length_nil, List.drop_nil, List.size_toArray, Nat.reduceAdd, Nat.reduceLeDiff, Nat.reduceBEq, Nat.zero_add, Nat.le_refl, decide_true, mkV, List.headD_cons, cellsV, w_fldV, w_ext, w_fldP, List.getElem?_toArray, List.getElem?_cons_zero, List.getElem?_cons_succ, beq_self_eq_true, selV]
    refine ifD_of (fun h1 => hK' _ _ ⟨rfl, jb_d (by omega)⟩) (fun h1 => hK' _ _ ⟨rfl, jb_f (by omega)⟩)
  rintro s H'' ⟨rfl, rfl⟩
  try simp only [sv_cons, sv_cons1, sc_cons, sc_cons1, asB_bool, ifB_true, ifB_false, un_not, bin_lss, bin_leq, bin_gtr, bin_geq, bin_eql, bin_neq, bin_add, bin_sub, bin_mul, ok_int, ok_bool, ok_slice, ok_str, ok_ptr, ok_map, ok_func, ok_iface, ok_nil, List.all_cons, List.all_nil, Bool.and_true, Bool.true_and, seg, setSeg, List.drop_succ_cons, List.drop_zero, List.take_succ_cons, List.take_zero, List.cons_append, List.nil_append, List.append_nil, List.length_cons, List.length_nil, List.drop_nil, List.size_toArray, Nat.reduceAdd, Nat.reduceLeDiff, Nat.reduceBEq, Nat.zero_add, Nat.le_refl, decide_true, mkV, List.headD_cons, cellsV, w_fldV, w_ext, w_fldP, List.getElem?_toArray, List.getElem?_cons_zero, List.getElem?_cons_succ, beq_self_eq_true, selV]
  refine ifD_of (fun h1 => ?_) (fun h1 => ?_)
  · have hx : d[i]? = some d[i] := List.getElem?_eq_getElem h1.1
    generalize d[i] = x at hx
    refine loop_up 200 (fun k s H' => H' = H'' ∧ ∃ m : Int, s = [[.int .i64 m], [.int .i64 (k : Int)]] ∧ n ≤ m ∧ m ≤ n + k * 100000 ∧ ∀ j b, j < k → x[j]? = some b → (if (100000 : Int) < b.length then 100000 else (b.length : Int)) ≤ m)
      ⟨rfl, n, rfl, by omega, by omega, fun j x h => by omega⟩ ?_
    rintro k s H' K2 hk ⟨rfl, m, rfl, hm0, hm1, hjn⟩ hK2
    refine join_of (fun s H'' => H'' = H' ∧ s = [[.bool (decide (k < x.length ∧ k < 200))]]) (fun K' hK' => ?_) ?_
    · refine ha.getS hx fun u hu => hu.len ?_
      try simp only [sv_cons, sv_cons1, sc_cons, sc_cons1, asB_bool, ifB_true, ifB_false, un_not, bin_lss, bin_leq, bin_gtr, bin_geq, bin_eql, bin_neq, bin_add, bin_sub, bin_mul, ok_int, ok_bool, ok_slice, ok_str, ok_ptr, ok_map, ok_func, ok_iface, ok_nil, List.all_cons, List.all_nil, Bool.and_true, Bool.true_and, seg, setSeg, List.drop_succ_cons, List.drop_zero, List.take_succ_cons, List.take_zero, List.cons_append, List.nil_append, List.append_nil, List.length_cons, List.length_nil, List.drop_nil, List.size_toArray, Nat.reduceAdd, Nat.reduceLeDiff, Nat.reduceBEq, Nat.zero_add, Nat.le_refl, decide_true, mkV, List.headD_cons, cellsV, w_fldV, w_ext, w_fldP, List.getElem?_toArray, List.getElem?_cons_zero, List.getElem?_cons_succ, beq_self_eq_true, selV]
      refine ifD_of (fun h1 => hK' _ _ ⟨rfl, jb_d (by omega)⟩) (fun h1 => hK' _ _ ⟨rfl, jb_f (by omega)⟩)
    rintro s H'' ⟨rfl, rfl⟩
    try simp only [sv_cons, sv_cons1, sc_cons, sc_cons1, asB_bool, ifB_true, ifB_false, un_not, bin_lss, bin_leq, bin_gtr, bin_geq, bin_eql, bin_neq, bin_add, bin_sub, bin_mul, ok_int, ok_bool, ok_slice, ok_str, ok_ptr, ok_map, ok_func, ok_iface, ok_nil, List.all_cons, List.all_nil, Bool.and_true, Bool.true_and, seg, setSeg, List.drop_succ_cons, List.drop_zero, List.take_succ_cons, List.take_zero, List.cons_append, List.nil_append, List.append_nil, List.length_cons, List.length_nil, List.drop_nil, List.size_toArray, Nat.reduceAdd, Nat.reduceLeDiff, Nat.reduceBEq, Nat.zero_add, Nat.le_refl, decide_true, mkV, List.headD_cons, cellsV, w_fldV, w_ext, w_fldP, List.getElem?_toArray, List.getElem?_cons_zero, List.getElem?_cons_succ, beq_self_eq_true, selV]
    refine ifD_of (fun h2 => ?_) (fun h2 => ?_)
    · have hb : x[k]? = some x[k] := List.getElem?_eq_getElem h2.1
      generalize x[k] = b at hb
      refine ha.getS hx fun u hu => hu.getS hb fun w hw => hw.len ?_
      rw [w_min]
      try simp only [sv_cons, sv_cons1, sc_cons, sc_cons1, asB_bool, ifB_true, ifB_false, un_not, bin_lss, bin_leq, bin_gtr, bin_geq, bin_eql, bin_neq, bin_add, bin_sub, bin_mul, ok_int, ok_bool, ok_slice, ok_str, ok_ptr, ok_map, ok_func, ok_iface, ok_nil, List.all_cons, List.all_nil, Bool.and_true, Bool.true_and, seg, setSeg, List.drop_succ_cons, List.drop_zero, List.take_succ_cons, List.take_zero, List.cons_append, List.nil_append, List.append_nil, List.length_cons, List.length_nil, List.drop_nil, List.size_toArray, Nat.reduceAdd, Nat.reduceLeDiff, Nat.reduceBEq, Nat.zero_add, Nat.le_refl, decide_true, mkV, List.headD_cons, cellsV, w_fldV, w_ext, w_fldP, List.getElem?_toArray, List.getElem?_cons_zero, List.getElem?_cons_succ, beq_self_eq_true, selV]
      have hmin : 0 ≤ (if (100000 : Int) < b.length then 100000 else (b.length : Int)) ∧ (if (100000 : Int) < b.length then 100000 else (b.length : Int)) ≤ 100000 := by split <;> omega
      generalize hq : (if (100000 : Int) < b.length then 100000 else (b.length : Int)) = q at hmin
      rw [wrap_i64 (x := m + q) (by unfold i64; omega), wrap_i64 (by unfold i64; omega)]
      refine hK2 _ _ (by omega) ⟨rfl, m + q, rfl, by omega, by simp; omega, fun j b' hj hb' => ?_⟩
      rcases Nat.lt_or_ge j k with h | h
      · have := hjn j b' h hb'; omega
      · have : j = k := by omega
        subst this
        rw [hb] at hb'; cases hb'
        omega
    · refine ha.getS hx fun u hu => hu.len ?_
      try simp only [sv_cons, sv_cons1, sc_cons, sc_cons1, asB_bool, ifB_true, ifB_false, un_not, bin_lss, bin_leq, bin_gtr, bin_geq, bin_eql, bin_neq, bin_add, bin_sub, bin_mul, ok_int, ok_bool, ok_slice, ok_str, ok_ptr, ok_map, ok_func, ok_iface, ok_nil, List.all_cons, List.all_nil, Bool.and_true, Bool.true_and, seg, setSeg, List.drop_succ_cons, List.drop_zero, List.take_succ_cons, List.take_zero, List.cons_append, List.nil_append, List.append_nil, List.length_cons, List.length_nil, List.drop_nil, List.size_toArray, Nat.reduceAdd, Nat.reduceLeDiff, Nat.reduceBEq, Nat.zero_add, Nat.le_refl, decide_true, mkV, List.headD_cons, cellsV, w_fldV, w_ext, w_fldP, List.getElem?_toArray, List.getElem?_cons_zero, List.getElem?_cons_succ, beq_self_eq_true, selV]
      refine ifD_of (fun h3 => hQ _ fun h => by cases h) (fun h3 => ?_)
      rw [wrap_i64 (by unfold i64; omega)]
      refine hK _ _ (by omega) ⟨rfl, m, rfl, by omega, by simp; omega, fun j y hj hy => ?_⟩
      rcases Nat.lt_or_ge j i with h | h
      · have := hin j y h hy
        exact ⟨this.1, fun b hb => by have := this.2 b hb; omega⟩
      · have : j = i := by omega
        subst this
        rw [hx] at hy; cases hy
        refine ⟨by omega, fun b hb => ?_⟩
        obtain ⟨q, hq⟩ := List.mem_iff_getElem?.1 hb
        have := (List.getElem?_eq_some_iff.1 hq).1
        exact hjn q b (by omega) hq
  · refine join_of (fun s H' => H' = H'' ∧ s = [[.bool (decide (d.length > 6 ∨ n > 40000))]]) (fun K' hK' => ?_) ?_
    · refine ha.len ?_
      try simp only [sv_cons, sv_cons1, sc_cons, sc_cons1, asB_bool, ifB_true, ifB_false, un_not, bin_lss, bin_leq, bin_gtr, bin_geq, bin_eql, bin_neq, bin_add, bin_sub, bin_mul, ok_int, ok_bool, ok_slice, ok_str, ok_ptr, ok_map, ok_func, ok_iface, ok_nil, List.all_cons, List.all_nil, Bool.and_true, Bool.true_and, seg, setSeg, List.drop_succ_cons, List.drop_zero, List.take_succ_cons, List.take_zero, List.cons_append, List.nil_append, List.append_nil, List.length_cons, List.length_nil, List.drop_nil, List.size_toArray, Nat.reduceAdd, Nat.reduceLeDiff, Nat.reduceBEq, Nat.zero_add, Nat.le_refl, decide_true, mkV, List.headD_cons, cellsV, w_fldV, w_ext, w_fldP, List.getElem?_toArray, List.getElem?_cons_zero, List.getElem?_cons_succ, beq_self_eq_true, selV]
      refine ifD_of (fun h1 => hK' _ _ ⟨rfl, jb_t (by omega)⟩) (fun h1 => hK' _ _ ⟨rfl, jb_d (by omega)⟩)
    rintro s H' ⟨rfl, rfl⟩
    refine hQ _ fun hf => ?_
    have hf := of_decide_eq_false hf
    refine ⟨by omega, fun x hx => ?_⟩
    obtain ⟨j, hj⟩ := List.mem_iff_getElem?.1 hx
    have hlt := (List.getElem?_eq_some_iff.1 hj).1
    have := hin j x (by omega) hj
    refine ⟨this.1, fun b hb => ?_⟩
    have := this.2 b hb
    split at this <;> omega

/-! ### Twins -/

/-- A copy of bytes. -/
theorem clone_appL {e' : Nat} {z' : List Value} {x t : Value} {bs : By} {b0 : Nat} {k : Value → Heap → Prop} (ht : Ow rU8 H b0 (fun _ => False) t []) (hx : Sl rU8 H A x bs) (hz' : z'.length = 1) (hl : bs.length ≤ 140737488355328)
    (hk : ∀ u H' b, Ow rU8 H' b (fun _ => False) u bs → Fr (fun y => y + 1 ≠ b0) H H' → (b = b0 ∨ (b = H.size + 1 ∧ G H H')) → k u H') : appS e' 1 1 z' t x H k := by
  refine ht.app hx.src.f8 rfl (by omega) hz' (fun y hy hlt => by simp at hy) (by simp; omega) (by simp; omega) fun u H2 b' ho hf hb hg => ?_
  refine hk u H2 b' (by simpa using ho.mono (A' := fun _ => False) fun y hy _ => by simp at hy) hf ?_
  rcases hb with h | h
  · exact .inl h
  · exact .inr ⟨h, hg h⟩
theorem clone_app {e' : Nat} {z' : List Value} {x t : Value} {bs : By} {b0 : Nat} {k : Value → Heap → Prop} (ht : Ow rU8 H b0 (fun _ => False) t []) (hx : Sl rU8 H A x bs) (hz' : z'.length = 1) (hl : bs.length ≤ 1000000)
    (hk : ∀ u H' b, Ow rU8 H' b (fun _ => False) u bs → Fr (fun y => y + 1 ≠ b0) H H' → (b = b0 ∨ (b = H.size + 1 ∧ G H H')) → k u H') : appS e' 1 1 z' t x H k := clone_appL ht hx hz' (by omega) hk

theorem clone_of {e e' : Nat} {z z' : List Value} {x : Value} {bs : By} {k : Value → Heap → Prop} (hx : Sl rU8 H A x bs) (hz' : z'.length = 1) (hl : bs.length ≤ 1000000)
    (hk : ∀ u H' b, Ow rU8 H' b (fun _ => False) u bs → G H H' → H.size < b → b ≤ H'.size → k u H') : bldS e 1 false z 0 [] H fun t H => appS e' 1 1 z' t x H k := by
  refine bld_nil rU8 fun t H1 ht g1 s1 => clone_app ht (hx.g g1) hz' hl fun u H2 b ho hf hb => ?_
  have := ho.lt
  exact hk u H2 b ho (g1.then hf fun y hy => show y + 1 ≠ H.size + 1 by omega) (by omega) this

/-- What comes of copying a list of bytes: an own list, of fresh bytes. -/
structure Cl (H H' : Heap) (v : Value) (b : Nat) (vs : List Value) (F : Nat → Prop) (xs : List By) : Prop where
  own : Ow rV H' b (fun _ => False) v vs
  leaves : All2 (Lf H' F) vs xs
  fresh : b = 0 ∨ H.size < b
  freshF : ∀ y, F y → H.size ≤ y ∧ y < H'.size ∧ y + 1 ≠ b
  g : G H H'

theorem Cl.nil {H' : Heap} (g : G H H') : Cl H H' (.slice none 0 0) 0 [] (fun _ => False) [] := ⟨Ow.nil _ _ _, .nil _, .inl rfl, fun y h => h.elim, g⟩

/-- One more, fresh bytes. -/
theorem Cl.push {e e' bytes bu b : Nat} {z z' : List Value} {v u : Value} {vs : List Value} {F : Nat → Prop} {xs : List By} {x : By} {H1 H2 : Heap} {k : Value → Heap → Prop} (h : Cl H H1 v b vs F xs) (g : G H1 H2)
    (hu : Ow rU8 H2 bu (fun _ => False) u x) (hb : bu = 0 ∨ H1.size < bu) (hz : z.length = 1) (hz' : z'.length = 1) (hl : (xs.length + 1) * bytes ≤ 140737488355328) (hl2 : xs.length < 1000000)
    (hk : ∀ v' H3 b', Cl H H3 v' b' (vs ++ [u]) (fun y => F y ∨ y + 1 = bu) (xs ++ [x]) → Fr (fun y => y + 1 ≠ b) H2 H3 → (b' = b ∨ H2.size < b') → k v' H3) : bldS e 1 false z 1 [(0, u)] H2 fun t H => appS e' 1 bytes z' v t H k := by
  have hlen := h.leaves.1
  have hlu := hu.lt
  have hb1 := h.own.lt
  have hs := g.size
  have hs0 := h.g.size
  refine (h.own.g g).push (vrep_V (A := fun _ => False) hu.okcv) rfl (by omega) (fun _ => rfl) hz hz' (fun y hy _ => by simp at hy) (by rw [hlen]; exact hl) (by rw [hlen]; omega) fun v' H3 b' ho hf hb' _ => ?_
  have hs3 := hf.size
  refine hk v' H3 b' ⟨ho.mono fun y hy _ => by simp at hy, ?_, by have := h.fresh; omega, fun y hy => ?_, (h.g.trans g).then hf fun y hy => ?_⟩ hf hb'
  · refine (h.leaves.imp fun w y hw => (hw.up g (F' := F) fun z hz _ => ⟨trivial, hz⟩).up hf fun z hz _ => ⟨(h.freshF z hz).2.2, .inl hz⟩).snoc ?_
    exact (Ow.lf hu).up hf fun z hz _ => ⟨show z + 1 ≠ b by have : z + 1 = bu := hz; omega, .inr hz⟩
  · rcases hy with hy | hy
    · have := h.freshF y hy; omega
    · omega
  · show y + 1 ≠ b
    have := h.fresh; omega

/-- What comes of copying a device. -/
structure Cd (H H' : Heap) (v : Value) (d : Dv) : Prop where
  ex : ∃ b bs vs vss F, Ow2R H' (fun y => H.size ≤ y ∧ ¬ F y ∧ y < H'.size) b bs v vs vss ∧ All2 (fun ws x => All2 (Lf H' F) ws x) vss d ∧ (∀ y, F y → H.size ≤ y ∧ y < H'.size)
  g : G H H'

theorem Cd.nil {H' : Heap} (g : G H H') : Cd H H' (.slice none 0 0) [] := ⟨⟨0, [], [], [], fun _ => False, Ow2R.nil _ _, .nil _, fun y h => h.elim⟩, g⟩

theorem Cd.push {e e' bytes bu : Nat} {z z' : List Value} {v u : Value} {ws : List Value} {F1 : Nat → Prop} {d : Dv} {x : List By} {H1 H2 : Heap} {k : Value → Heap → Prop} (h : Cd H H1 v d)
    (hu : Cl H1 H2 u bu ws F1 x) (hz : z.length = 1) (hz' : z'.length = 1) (hl : (d.length + 1) * bytes ≤ 140737488355328) (hl2 : d.length < 1000000)
    (hk : ∀ v' H3, Cd H H3 v' (d ++ [x]) → k v' H3) : bldS e 1 false z 1 [(0, u)] H2 fun t H => appS e' 1 bytes z' v t H k := by
  obtain ⟨⟨b, bs, vs, vss, F, h1, h2, h3⟩, g⟩ := h
  have hlv := h1.lenV
  have hld := h2.1
  have hs1 := hu.g.size
  have hs0 := g.size
  have hb := h1.outer.lt
  have hbu := hu.own.lt
  refine (h1.outer.g hu.g).push (vrep_V (A := fun _ => False) hu.own.okcv) rfl (by omega) (fun _ => rfl) hz hz' (fun y hy _ => by simp at hy) (by rw [hlv, hld]; exact hl) (by rw [hlv, hld]; omega) fun v' H3 b' ho hf hb' _ => ?_
  have hs3 := hf.size
  have hbo := ho.lt
  refine hk v' H3 ⟨⟨b', bs ++ [bu], vs ++ [u], vss ++ [ws], fun y => F y ∨ F1 y, ?_, ?_, fun y hy => ?_⟩, (g.trans hu.g).then hf fun y hy => ?_⟩
  · have hfr := hu.fresh
    have hbA : ∀ k, b = k + 1 → H.size ≤ k := fun k hk => (h1.inA k hk).1
    refine (h1.up hu.g fun _ _ _ => trivial).snoc hu.own (ho.mono fun y hy _ => by simp at hy) hf (by omega) (fun y hy _ => ⟨hy.1, fun hF => hF.elim hy.2.1 fun h => by have := (hu.freshF y h).1; omega, by omega⟩) (fun k hk => ?_) (fun k hk => ?_) fun i k hk e => ?_
    · rcases hb' with e | e
      · have := h1.inA k (by omega)
        exact ⟨this.1, fun hF => hF.elim this.2.1 fun h => by have := (hu.freshF k h).1; omega, by omega⟩
      · exact ⟨by omega, fun hF => hF.elim (fun h => by have := h3 k h; omega) fun h => by have := (hu.freshF k h).2.1; omega, by omega⟩
    · exact ⟨⟨by omega, fun hF => hF.elim (fun h => by have := h3 k h; omega) fun h => by have := (hu.freshF k h).2.2; omega, by omega⟩, by omega⟩
    · have := (h1.inB i k hk).1.2.2
      omega
  · have hbF : ∀ y, F y → y + 1 ≠ b := fun y hF e => (h1.inA y e.symm).2.1 hF
    refine (h2.imp fun ws x h => h.imp fun w x hw => (hw.up hu.g (F' := F) fun z hz _ => ⟨trivial, hz⟩).up hf fun z hz _ => ⟨hbF z hz, .inl hz⟩).snoc ?_
    exact hu.leaves.imp fun w x hw => hw.up hf fun z hz _ => ⟨show z + 1 ≠ b by have := (hu.freshF z hz).1; omega, .inr hz⟩
  · rcases hy with hy | hy
    · have := h3 y hy; omega
    · have := hu.freshF y hy; omega
  · show y + 1 ≠ b
    have : ∀ k, b = k + 1 → H.size ≤ k := fun k hk => (h1.inA k hk).1
    intro e
    have := this y e.symm; omega

theorem Cd.out {H' : Heap} {v : Value} {d : Dv} (h : Cd H H' v d) : ∃ O F, DvO H' O F v d ∧ ∀ y, O y ∨ F y → H.size ≤ y ∧ y < H'.size := by
  obtain ⟨⟨b, bs, vs, vss, F, h1, h2, h3⟩, g⟩ := h
  exact ⟨_, F, ⟨⟨vss, ⟨b, bs, vs, h1⟩, h2⟩, fun y hy => hy.2.1⟩, fun y hy => hy.elim (fun h => ⟨h.1, h.2.2⟩) (h3 y)⟩

theorem Cd.of {H' H1 : Heap} {v : Value} {d : Dv} (h : Cd H1 H' v d) (g : G H H1) : Cd H H' v d := by
  obtain ⟨⟨b, bs, vs, vss, F, h1, h2, h3⟩, g'⟩ := h
  have := g.size
  exact ⟨⟨b, bs, vs, vss, F, h1.mono fun y hy _ => ⟨by omega, hy.2⟩, h2, fun y hy => by have := h3 y hy; omega⟩, g.trans g'⟩

/-! ### May a device be? -/

/-! ### Buckets that are asked -/

end Go.Proofs.YtlmpjhbfgakgdaaDoor
