/- Contracts: copies of devices whose buckets lie each on a block of its own. -/
import Derived.Test.YtelfpkegpffajaaConDev
import Derived.Test.YtelfpkegpffajaaConRef12c
import Derived.Test.YtelfpkegpffajaaMdHarm
namespace Go.Proofs.Ytelfpkegpffajaa
open Go.Ab Go.Md
set_option linter.unusedVariables false
set_option linter.unusedSimpArgs false
set_option maxRecDepth 20000

variable {H : Heap} {Q : Value → Heap → Prop} {A B C : Nat → Prop}

structure ClX (H H' : Heap) (v : Value) (b : Nat) (vs : List Value) (F : Nat → Prop) (xs : List By) : Prop where
  cl : Cl H H' v b vs F xs
  los : All2 (LO H' F) vs xs
  ap : Ap vs

theorem ClX.nil {H' : Heap} (g : G H H') : ClX H H' (.slice none 0 0) 0 [] (fun _ => False) [] := ⟨Cl.nil g, .nil _, .nil⟩

theorem ClX.push {e e' bytes bu b : Nat} {z z' : List Value} {v u : Value} {vs : List Value} {F : Nat → Prop} {xs : List By} {x : By} {H1 H2 : Heap} {k : Value → Heap → Prop} (h : ClX H H1 v b vs F xs) (g : G H1 H2)
    (hu : Ow rU8 H2 bu (fun _ => False) u x) (hb : bu = 0 ∨ H1.size < bu) (hz : z.length = 1) (hz' : z'.length = 1) (hl : (xs.length + 1) * bytes ≤ 140737488355328) (hl2 : xs.length < 1000000)
    (hk : ∀ v' H3 b', ClX H H3 v' b' (vs ++ [u]) (fun y => F y ∨ y + 1 = bu) (xs ++ [x]) → Fr (fun y => y + 1 ≠ b) H2 H3 → (b' = b ∨ H2.size < b') → k v' H3) : bldS e 1 false z 1 [(0, u)] H2 fun t H => appS e' 1 bytes z' v t H k := by
  have hb1 := h.cl.own.lt
  refine h.cl.push g hu hb hz hz' hl hl2 fun v' H3 b' hc hf hb' => hk v' H3 b' ⟨hc, ?_, h.ap.snoc fun w hw q e1 e2 => ?_⟩ hf hb'
  · refine (h.los.imp fun w y hw => (hw.up g (F' := F) fun z hz _ => ⟨trivial, hz⟩).up hf fun z hz _ => ⟨(h.cl.freshF z hz).2.2, .inl hz⟩).snoc ?_
    exact ⟨bu, hu.upF hf fun k hk => show k + 1 ≠ b by omega, fun k hk => .inr hk.symm⟩
  · obtain ⟨i, hi⟩ := List.mem_iff_getElem?.1 hw
    obtain ⟨x', hx', b', ho', hF'⟩ := h.los.getL hi
    have h1 := (h.cl.freshF q (hF' q ((Ow.blk ho' q).2 e1))).2.1
    have h2 := (Ow.blk hu q).2 e2
    omega

theorem ClX.g {H' : Heap} {v : Value} {b : Nat} {vs : List Value} {F : Nat → Prop} {xs : List By} (h : ClX H H' v b vs F xs) : G H H' := h.cl.g

structure CdX (H H' : Heap) (v : Value) (d : Dv) : Prop where
  ex : ∃ b bs vs vss F, Ow2R H' (fun y => H.size ≤ y ∧ ¬ F y ∧ y < H'.size) b bs v vs vss ∧ All2 (fun ws x => All2 (LO H' F) ws x) vss d ∧ (∀ y, F y → H.size ≤ y ∧ y < H'.size) ∧ Ap vss.flatten
  g : G H H'

theorem CdX.nil {H' : Heap} (g : G H H') : CdX H H' (.slice none 0 0) [] := ⟨⟨0, [], [], [], fun _ => False, Ow2R.nil _ _, .nil _, (fun y h => h.elim), .nil⟩, g⟩

theorem CdX.push {e e' bytes bu : Nat} {z z' : List Value} {v u : Value} {ws : List Value} {F1 : Nat → Prop} {d : Dv} {x : List By} {H1 H2 : Heap} {k : Value → Heap → Prop} (h : CdX H H1 v d)
    (hx : ClX H1 H2 u bu ws F1 x) (hz : z.length = 1) (hz' : z'.length = 1) (hl : (d.length + 1) * bytes ≤ 140737488355328) (hl2 : d.length < 1000000)
    (hk : ∀ v' H3, CdX H H3 v' (d ++ [x]) → k v' H3) : bldS e 1 false z 1 [(0, u)] H2 fun t H => appS e' 1 bytes z' v t H k := by
  obtain ⟨⟨b, bs, vs, vss, F, h1, h2, h3, hap⟩, g⟩ := h
  have hu := hx.cl
  have hlv := h1.lenV
  have hld := h2.1
  have hs1 := hu.g.size
  have hs0 := g.size
  have hb := h1.outer.lt
  have hbu := hu.own.lt
  refine (h1.outer.g hu.g).push (vrep_V (A := fun _ => False) hu.own.okcv) rfl (by omega) (fun _ => rfl) hz hz' (fun y hy _ => by simp at hy) (by rw [hlv, hld]; exact hl) (by rw [hlv, hld]; omega) fun v' H3 b' ho hf hb' _ => ?_
  have hs3 := hf.size
  have hbo := ho.lt
  refine hk v' H3 ⟨⟨b', bs ++ [bu], vs ++ [u], vss ++ [ws], fun y => F y ∨ F1 y, ?_, ?_, fun y hy => ?_, ?_⟩, (g.trans hu.g).then hf fun y hy => ?_⟩
  · have hfr := hu.fresh
    have hbA : ∀ k, b = k + 1 → H.size ≤ k := fun k hk => (h1.inA k hk).1
    refine (h1.up hu.g fun _ _ _ => trivial).snoc hu.own (ho.mono fun y hy _ => by simp at hy) hf (by omega) (fun y hy _ => ⟨hy.1, fun hF => hF.elim hy.2.1 fun h => by have := (hu.freshF y h).1; omega, by omega⟩) (fun k hk => ?_) (fun k hk => ?_) fun i k hk e => ?_
    · rcases hb' with e | e
      · have := h1.inA k (by omega)
        exact ⟨this.1, fun hF => hF.elim this.2.1 fun h => by have := (hu.freshF k h).1; omega, by omega⟩
      · exact ⟨by omega, fun hF => hF.elim (fun h => by have := h3 k h; omega) fun h => by have := (hu.freshF k h).2.1; omega, by omega⟩
    · exact ⟨⟨by omega, fun hF => hF.elim (fun h => by have := h3 k h; omega) fun h => by have := (hu.freshF k h).2.2; omega, by omega⟩, by omega⟩
    · have := (h1.inB i k hk).1.2.2
      omega
  · have hbF : ∀ y, F y → y + 1 ≠ b := fun y hF e => (h1.inA y e.symm).2.1 hF
    refine (h2.imp fun ws x h => h.imp fun w x hw => (hw.up hu.g (F' := F) fun z hz _ => ⟨trivial, hz⟩).up hf fun z hz _ => ⟨hbF z hz, .inl hz⟩).snoc ?_
    exact hx.los.imp fun w x hw => hw.up hf fun z hz _ => ⟨show z + 1 ≠ b by have := (hu.freshF z hz).1; omega, .inr hz⟩
  · rcases hy with hy | hy
    · have := h3 y hy; omega
    · have := hu.freshF y hy; omega
  · rw [List.flatten_append]
    refine List.pairwise_append.2 ⟨hap, by rw [List.flatten_singleton]; exact hx.ap, fun w hw w' hw' q e1 e2 => ?_⟩
    obtain ⟨ws', hws, hw⟩ := List.mem_flatten.1 hw
    obtain ⟨i, hi⟩ := List.mem_iff_getElem?.1 hws
    obtain ⟨j, hj⟩ := List.mem_iff_getElem?.1 hw
    obtain ⟨x1, hx1, h4⟩ := h2.getL hi
    obtain ⟨x2, hx2, b2, ho2, hF2⟩ := h4.getL hj
    obtain ⟨j', hj'⟩ := List.mem_iff_getElem?.1 (show w' ∈ ws by simpa using hw')
    obtain ⟨x3, hx3, b3, ho3, hF3⟩ := hx.los.getL hj'
    have k1 := h3 q (hF2 q ((Ow.blk ho2 q).2 e1))
    have k2 := hu.freshF q (hF3 q ((Ow.blk ho3 q).2 e2))
    omega
  · show y + 1 ≠ b
    have : ∀ k, b = k + 1 → H.size ≤ k := fun k hk => (h1.inA k hk).1
    intro e
    have := this y e.symm; omega

theorem CdX.of {H' H1 : Heap} {v : Value} {d : Dv} (h : CdX H1 H' v d) (g : G H H1) : CdX H H' v d := by
  obtain ⟨⟨b, bs, vs, vss, F, h1, h2, h3, h4⟩, g'⟩ := h
  have := g.size
  exact ⟨⟨b, bs, vs, vss, F, h1.mono fun y hy _ => ⟨by omega, hy.2⟩, h2, (fun y hy => by have := h3 y hy; omega), h4⟩, g.trans g'⟩
theorem CdX.out {H' : Heap} {v : Value} {d : Dv} (h : CdX H H' v d) : ∃ O F b bs vs, DvX H' O F b bs v vs d ∧ ∀ y, O y ∨ F y → H.size ≤ y ∧ y < H'.size := by
  obtain ⟨⟨b, bs, vs, vss, F, h1, h2, h3, h4⟩, g⟩ := h
  exact ⟨_, F, b, bs, vs, ⟨⟨vss, h1, h2, h4⟩, fun y hy => hy.2.1⟩, fun y hy => hy.elim (fun h => ⟨h.1, h.2.2⟩) (h3 y)⟩
theorem CdX.okcv {H' : Heap} {v : Value} {d : Dv} (h : CdX H H' v d) : okc v = true := by obtain ⟨⟨b, bs, vs, vss, F, h1, _⟩, _⟩ := h; exact h1.outer.okcv

theorem c_each1X {a : Value} {xs : List By} (ha : Sl rBy H A a xs) (hl : xs.length ≤ 10000) (hl2 : ∀ x ∈ xs, x.length ≤ 1000000) (hQ : ∀ v b vs F H', ClX H H' v b vs F xs → Q v H') : callV Try.prog (fnV fn_dev_each_byte_byte_1) [a, fnV fn_slices_Clone_byte_byte] H Q := by
  apply S_dev_each_byte_byte_1_of
  unfold S_dev_each_byte_byte_1
  refine ha.len ?_
  refine loop_up xs.length (fun i s H' => ∃ v b vs F, ClX H H' v b vs F (xs.take i) ∧ s = [[v], [.int .i64 (i : Int)]]) ⟨_, _, _, _, by simpa using ClX.nil (G.fr (Fr.refl _ H)), rfl⟩ ?_
  rintro i s H' K hi ⟨v, b, vs, F, hc, rfl⟩ hK
  try simp only [sv_cons, sv_cons1, sc_cons, sc_cons1, asB_bool, ifB_true, ifB_false, un_not, bin_lss, bin_leq, bin_gtr, bin_geq, bin_eql, bin_neq, bin_add, bin_sub, bin_mul, ok_int, ok_bool, ok_slice, ok_str, ok_ptr, ok_map, ok_func, ok_iface, ok_nil, List.all_cons, List.all_nil, Bool.and_true, Bool.true_and, seg, setSeg, List.drop_succ_cons, List.drop_zero, List.take_succ_cons, List.take_zero, List.cons_append, List.nil_append, List.append_nil, List.length_cons, List.length_nil, List.drop_nil, List.size_toArray, Nat.reduceAdd, Nat.reduceLeDiff, Nat.reduceBEq, Nat.zero_add, Nat.le_refl, decide_true, mkV, List.headD_cons, cellsV, w_fldV, w_ext, w_fldP, List.getElem?_toArray, List.getElem?_cons_zero, List.getElem?_cons_succ, beq_self_eq_true, selV]
  refine ifD_of (fun h1 => ?_) (fun h1 => ?_)
  · have hlt : i < xs.length := by omega
    have hx : xs[i]? = some xs[i] := List.getElem?_eq_getElem hlt
    have htk : (xs.take i).length = i := by rw [List.length_take]; omega
    refine (ha.g hc.g).getS hx fun u hu => c_Clone hu (hl2 _ (List.getElem_mem hlt)) fun w H2 bw hw g2 hb => ?_
    refine hc.push g2 hw hb rfl rfl (by rw [htk]; omega) (by rw [htk]; omega) fun v' H3 b' hc' _ _ => ?_
    try simp only [sv_cons, sv_cons1, sc_cons, sc_cons1, asB_bool, ifB_true, ifB_false, un_not, bin_lss, bin_leq, bin_gtr, bin_geq, bin_eql, bin_neq, bin_add, bin_sub, bin_mul, ok_int, ok_bool, ok_slice, ok_str, ok_ptr, ok_map, ok_func, ok_iface, ok_nil, List.all_cons, List.all_nil, Bool.and_true, Bool.true_and, seg, setSeg, List.drop_succ_cons, List.drop_zero, List.take_succ_cons, List.take_zero, List.cons_append, List.nil_append, List.append_nil, List.length_cons, List.length_nil, List.drop_nil, List.size_toArray, Nat.reduceAdd, Nat.reduceLeDiff, Nat.reduceBEq, Nat.zero_add, Nat.le_refl, decide_true, mkV, List.headD_cons, cellsV, w_fldV, w_ext, w_fldP, List.getElem?_toArray, List.getElem?_cons_zero, List.getElem?_cons_succ, beq_self_eq_true, selV]
    rw [wrap_i64 (by unfold i64; omega)]
    exact hK _ _ hlt ⟨v', b', _, _, by rw [List.take_succ_eq_append_getElem hlt]; exact hc', by simp⟩
  · have : i = xs.length := by omega
    subst this
    rw [List.take_length] at hc
    exact hQ v b vs F H' hc

theorem c_each0X {a : Value} {d : Dv} (ha : Sl rBys H A a d) (hd : Mid d) (hQ : ∀ v H', CdX H H' v d → Q v H') : callV Try.prog (fnV fn_dev_each_byte_byte_0) [a, fnV fn_dev_Twin_1] H Q := by
  apply S_dev_each_byte_byte_0_of
  unfold S_dev_each_byte_byte_0
  have hd1 := hd.1
  refine ha.len ?_
  refine loop_up d.length (fun i s H' => ∃ v, CdX H H' v (d.take i) ∧ s = [[v], [.int .i64 (i : Int)]]) ⟨_, by simpa using CdX.nil (G.fr (Fr.refl _ H)), rfl⟩ ?_
  rintro i s H' K hi ⟨v, hc, rfl⟩ hK
  try simp only [sv_cons, sv_cons1, sc_cons, sc_cons1, asB_bool, ifB_true, ifB_false, un_not, bin_lss, bin_leq, bin_gtr, bin_geq, bin_eql, bin_neq, bin_add, bin_sub, bin_mul, ok_int, ok_bool, ok_slice, ok_str, ok_ptr, ok_map, ok_func, ok_iface, ok_nil, List.all_cons, List.all_nil, Bool.and_true, Bool.true_and, seg, setSeg, List.drop_succ_cons, List.drop_zero, List.take_succ_cons, List.take_zero, List.cons_append, List.nil_append, List.append_nil, List.length_cons, List.length_nil, List.drop_nil, List.size_toArray, Nat.reduceAdd, Nat.reduceLeDiff, Nat.reduceBEq, Nat.zero_add, Nat.le_refl, decide_true, mkV, List.headD_cons, cellsV, w_fldV, w_ext, w_fldP, List.getElem?_toArray, List.getElem?_cons_zero, List.getElem?_cons_succ, beq_self_eq_true, selV]
  refine ifD_of (fun h1 => ?_) (fun h1 => ?_)
  · have hlt : i < d.length := by omega
    have hx : d[i]? = some d[i] := List.getElem?_eq_getElem hlt
    have hxs := hd.2 _ (List.getElem_mem hlt)
    have htk : (d.take i).length = i := by rw [List.length_take]; omega
    refine (ha.g hc.g).getS hx fun u hu => ?_
    apply S_dev_Twin_1_of
    unfold S_dev_Twin_1
    refine c_each1X hu (by omega) hxs.2 fun w bw ws F1 H4 hcl => ?_
    refine hc.push hcl rfl rfl (by rw [htk]; omega) (by rw [htk]; omega) fun v' H5 hc' => ?_
    try simp only [sv_cons, sv_cons1, sc_cons, sc_cons1, asB_bool, ifB_true, ifB_false, un_not, bin_lss, bin_leq, bin_gtr, bin_geq, bin_eql, bin_neq, bin_add, bin_sub, bin_mul, ok_int, ok_bool, ok_slice, ok_str, ok_ptr, ok_map, ok_func, ok_iface, ok_nil, List.all_cons, List.all_nil, Bool.and_true, Bool.true_and, seg, setSeg, List.drop_succ_cons, List.drop_zero, List.take_succ_cons, List.take_zero, List.cons_append, List.nil_append, List.append_nil, List.length_cons, List.length_nil, List.drop_nil, List.size_toArray, Nat.reduceAdd, Nat.reduceLeDiff, Nat.reduceBEq, Nat.zero_add, Nat.le_refl, decide_true, mkV, List.headD_cons, cellsV, w_fldV, w_ext, w_fldP, List.getElem?_toArray, List.getElem?_cons_zero, List.getElem?_cons_succ, beq_self_eq_true, selV]
    rw [wrap_i64 (by unfold i64; omega)]
    exact hK _ _ hlt ⟨v', by rw [List.take_succ_eq_append_getElem hlt]; exact hc', by simp⟩
  · have : i = d.length := by omega
    subst this
    rw [List.take_length] at hc
    exact hQ v H' hc

theorem c_dev_TwinX {a : Value} {d : Dv} (ha : Sl rBys H A a d) (hd : Mid d) (hQ : ∀ v H', CdX H H' v d → Q (.agg #[v]) H') : callV Try.prog (fnV fn_dev_Twin) [.agg #[a]] H Q := by
  apply S_dev_Twin_of
  unfold S_dev_Twin
  refine newT_of fun H1 g1 _ => newT_of fun H2 g2 _ => c_each0X (ha.g (g1.trans g2)) hd fun v H3 hc => ?_
  try simp only [sv_cons, sv_cons1, sc_cons, sc_cons1, asB_bool, ifB_true, ifB_false, un_not, bin_lss, bin_leq, bin_gtr, bin_geq, bin_eql, bin_neq, bin_add, bin_sub, bin_mul, ok_int, ok_bool, ok_slice, ok_str, ok_ptr, ok_map, ok_func, ok_iface, ok_nil, List.all_cons, List.all_nil, Bool.and_true, Bool.true_and, seg, setSeg, List.drop_succ_cons, List.drop_zero, List.take_succ_cons, List.take_zero, List.cons_append, List.nil_append, List.append_nil, List.length_cons, List.length_nil, List.drop_nil, List.size_toArray, Nat.reduceAdd, Nat.reduceLeDiff, Nat.reduceBEq, Nat.zero_add, Nat.le_refl, decide_true, mkV, List.headD_cons, cellsV, w_fldV, w_ext, w_fldP, List.getElem?_toArray, List.getElem?_cons_zero, List.getElem?_cons_succ, beq_self_eq_true, selV, hc.okcv]
  exact hQ v H3 (hc.of (g1.trans g2))

theorem c_ref12_TwinAllX {a : Value} {xs : List By} (ha : Sl rBy H A a xs) (hl : xs.length ≤ 10000) (hl2 : ∀ x ∈ xs, x.length ≤ 1000000) (hQ : ∀ v b vs F H', ClX H H' v b vs F xs → Q v H') : callV Try.prog (fnV fn_ref12_TwinAll) [a] H Q := by
  apply S_ref12_TwinAll_of
  unfold S_ref12_TwinAll
  refine loop_up xs.length (fun i s H' => ∃ v b vs F, ClX H H' v b vs F (xs.take i) ∧ s = [[v], [.int .i64 (i : Int)]]) ⟨_, _, _, _, by simpa using ClX.nil (G.fr (Fr.refl _ H)), rfl⟩ ?_
  rintro i s H' K hi ⟨v, b, vs, F, hc, rfl⟩ hK
  refine ha.len ?_
  try simp only [sv_cons, sv_cons1, sc_cons, sc_cons1, asB_bool, ifB_true, ifB_false, un_not, bin_lss, bin_leq, bin_gtr, bin_geq, bin_eql, bin_neq, bin_add, bin_sub, bin_mul, ok_int, ok_bool, ok_slice, ok_str, ok_ptr, ok_map, ok_func, ok_iface, ok_nil, List.all_cons, List.all_nil, Bool.and_true, Bool.true_and, seg, setSeg, List.drop_succ_cons, List.drop_zero, List.take_succ_cons, List.take_zero, List.cons_append, List.nil_append, List.append_nil, List.length_cons, List.length_nil, List.drop_nil, List.size_toArray, Nat.reduceAdd, Nat.reduceLeDiff, Nat.reduceBEq, Nat.zero_add, Nat.le_refl, decide_true, mkV, List.headD_cons, cellsV, w_fldV, w_ext, w_fldP, List.getElem?_toArray, List.getElem?_cons_zero, List.getElem?_cons_succ, beq_self_eq_true, selV]
  refine ifD_of (fun h1 => ?_) (fun h1 => ?_)
  · have hlt : i < xs.length := by omega
    have hx : xs[i]? = some xs[i] := List.getElem?_eq_getElem hlt
    have htk : (xs.take i).length = i := by rw [List.length_take]; omega
    refine bld_nil rU8 fun t H1 ht g1 s1 => ?_
    refine (ha.g (hc.g.trans g1)).getS hx fun u hu => clone_app ht hu rfl (hl2 _ (List.getElem_mem hlt)) fun w H2 bw hw hf hb => ?_
    have hwl := hw.lt
    have g2 : G H' H2 := g1.then hf fun y hy => show y + 1 ≠ H'.size + 1 by omega
    refine hc.push g2 hw (.inr (by omega)) rfl rfl (by rw [htk]; omega) (by rw [htk]; omega) fun v' H3 b' hc' _ _ => ?_
    try simp only [sv_cons, sv_cons1, sc_cons, sc_cons1, asB_bool, ifB_true, ifB_false, un_not, bin_lss, bin_leq, bin_gtr, bin_geq, bin_eql, bin_neq, bin_add, bin_sub, bin_mul, ok_int, ok_bool, ok_slice, ok_str, ok_ptr, ok_map, ok_func, ok_iface, ok_nil, List.all_cons, List.all_nil, Bool.and_true, Bool.true_and, seg, setSeg, List.drop_succ_cons, List.drop_zero, List.take_succ_cons, List.take_zero, List.cons_append, List.nil_append, List.append_nil, List.length_cons, List.length_nil, List.drop_nil, List.size_toArray, Nat.reduceAdd, Nat.reduceLeDiff, Nat.reduceBEq, Nat.zero_add, Nat.le_refl, decide_true, mkV, List.headD_cons, cellsV, w_fldV, w_ext, w_fldP, List.getElem?_toArray, List.getElem?_cons_zero, List.getElem?_cons_succ, beq_self_eq_true, selV]
    rw [wrap_i64 (by unfold i64; omega)]
    exact hK _ _ hlt ⟨v', b', _, _, by rw [List.take_succ_eq_append_getElem hlt]; exact hc', by simp⟩
  · have : i = xs.length := by omega
    subst this
    rw [List.take_length] at hc
    exact hQ v b vs F H' hc

theorem c_ref12_TwinX {a : Value} {d : Dv} (ha : Sl rBys H A a d) (hd : Mid d) (hQ : ∀ v H', CdX H H' v d → Q (.agg #[v]) H') : callV Try.prog (fnV fn_ref12_Twin) [.agg #[a]] H Q := by
  apply S_ref12_Twin_of
  unfold S_ref12_Twin
  refine newT_of fun H1 g1 _ => newT_of fun H2 g2 _ => newT_of fun H3 g3 _ => ?_
  have g := (g1.trans g2).trans g3
  refine loop_up d.length (fun i s H' => ∃ v, CdX H H' v (d.take i) ∧ s = [[v], [.int .i64 (i : Int)]]) ⟨_, by simpa using CdX.nil g, rfl⟩ ?_
  rintro i s H' K hi ⟨v, hc, rfl⟩ hK
  have hd1 := hd.1
  refine (ha.g hc.g).len ?_
  try simp only [sv_cons, sv_cons1, sc_cons, sc_cons1, asB_bool, ifB_true, ifB_false, un_not, bin_lss, bin_leq, bin_gtr, bin_geq, bin_eql, bin_neq, bin_add, bin_sub, bin_mul, ok_int, ok_bool, ok_slice, ok_str, ok_ptr, ok_map, ok_func, ok_iface, ok_nil, List.all_cons, List.all_nil, Bool.and_true, Bool.true_and, seg, setSeg, List.drop_succ_cons, List.drop_zero, List.take_succ_cons, List.take_zero, List.cons_append, List.nil_append, List.append_nil, List.length_cons, List.length_nil, List.drop_nil, List.size_toArray, Nat.reduceAdd, Nat.reduceLeDiff, Nat.reduceBEq, Nat.zero_add, Nat.le_refl, decide_true, mkV, List.headD_cons, cellsV, w_fldV, w_ext, w_fldP, List.getElem?_toArray, List.getElem?_cons_zero, List.getElem?_cons_succ, beq_self_eq_true, selV]
  refine ifD_of (fun h1 => ?_) (fun h1 => ?_)
  · have hlt : i < d.length := by omega
    have hx : d[i]? = some d[i] := List.getElem?_eq_getElem hlt
    have hxs := hd.2 _ (List.getElem_mem hlt)
    have htk : (d.take i).length = i := by rw [List.length_take]; omega
    refine (ha.g hc.g).getS hx fun u hu => c_ref12_TwinAllX hu (by omega) (fun x hx => by have := hxs.2 x hx; omega) fun w bw ws F1 H4 hcl => ?_
    refine hc.push hcl rfl rfl (by rw [htk]; omega) (by rw [htk]; omega) fun v' H5 hc' => ?_
    have hok : okc v' = true := by obtain ⟨⟨b, bs, vs, vss, F, h1, _⟩, _⟩ := hc'; exact h1.outer.okcv
    try simp only [sv_cons, sv_cons1, sc_cons, sc_cons1, asB_bool, ifB_true, ifB_false, un_not, bin_lss, bin_leq, bin_gtr, bin_geq, bin_eql, bin_neq, bin_add, bin_sub, bin_mul, ok_int, ok_bool, ok_slice, ok_str, ok_ptr, ok_map, ok_func, ok_iface, ok_nil, List.all_cons, List.all_nil, Bool.and_true, Bool.true_and, seg, setSeg, List.drop_succ_cons, List.drop_zero, List.take_succ_cons, List.take_zero, List.cons_append, List.nil_append, List.append_nil, List.length_cons, List.length_nil, List.drop_nil, List.size_toArray, Nat.reduceAdd, Nat.reduceLeDiff, Nat.reduceBEq, Nat.zero_add, Nat.le_refl, decide_true, mkV, List.headD_cons, cellsV, w_fldV, w_ext, w_fldP, List.getElem?_toArray, List.getElem?_cons_zero, List.getElem?_cons_succ, beq_self_eq_true, selV, hok]
    rw [wrap_i64 (by unfold i64; omega)]
    exact hK _ _ hlt ⟨v', by rw [List.take_succ_eq_append_getElem hlt]; exact hc', by simp⟩
  · have : i = d.length := by omega
    subst this
    rw [List.take_length] at hc
    have hok : okc v = true := by obtain ⟨⟨b, bs, vs, vss, F, h1, _⟩, _⟩ := hc; exact h1.outer.okcv
    try simp only [sv_cons, sv_cons1, sc_cons, sc_cons1, asB_bool, ifB_true, ifB_false, un_not, bin_lss, bin_leq, bin_gtr, bin_geq, bin_eql, bin_neq, bin_add, bin_sub, bin_mul, ok_int, ok_bool, ok_slice, ok_str, ok_ptr, ok_map, ok_func, ok_iface, ok_nil, List.all_cons, List.all_nil, Bool.and_true, Bool.true_and, seg, setSeg, List.drop_succ_cons, List.drop_zero, List.take_succ_cons, List.take_zero, List.cons_append, List.nil_append, List.append_nil, List.length_cons, List.length_nil, List.drop_nil, List.size_toArray, Nat.reduceAdd, Nat.reduceLeDiff, Nat.reduceBEq, Nat.zero_add, Nat.le_refl, decide_true, mkV, List.headD_cons, cellsV, w_fldV, w_ext, w_fldP, List.getElem?_toArray, List.getElem?_cons_zero, List.getElem?_cons_succ, beq_self_eq_true, selV, hok]
    exact hQ v H' hc

end Go.Proofs.Ytelfpkegpffajaa
