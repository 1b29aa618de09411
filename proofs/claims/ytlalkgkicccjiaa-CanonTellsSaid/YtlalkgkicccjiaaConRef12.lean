/- Contracts: bytes and devices, as the references have them. -/
import Derived.Test.YtlalkgkicccjiaaConRef08
import Derived.Test.YtlalkgkicccjiaaShDev
import Derived.Test.YtlalkgkicccjiaaShRef12
import Derived.Test.YtlalkgkicccjiaaMdDev
namespace Go.Proofs.Ytlalkgkicccjiaa
open Go.Ab Go.Md
set_option linter.unusedVariables false
set_option linter.unusedSimpArgs false
set_option maxRecDepth 20000

variable {H : Heap} {Q : Value → Heap → Prop} {A B : Nat → Prop}

theorem take_eq_step {α : Type} {xs ys : List α} {i : Nat} (hx : i < xs.length) (hy : i < ys.length) (h : xs.take i = ys.take i) (he : xs[i] = ys[i]) : xs.take (i + 1) = ys.take (i + 1) := by
  rw [List.take_succ_eq_append_getElem hx, List.take_succ_eq_append_getElem hy, h, he]

theorem c_ref01_Same {a b : Value} {xs ys : By} (ha : Sl rU8 H A a xs) (hb : Sl rU8 H B b ys) (hQ : Q (.bool (decide (xs = ys))) H) : callV Try.prog (fnV fn_ref01_Same) [a, b] H Q := by
  apply S_ref01_Same_of
  unfold S_ref01_Same
  refine ha.str (hb.str ?_)
  simp only [bin_streq]
  exact hQ

theorem c_ref01_SameAll {a b : Value} {xs ys : List By} (ha : Sl rBy H A a xs) (hb : Sl rBy H B b ys) (hl : xs.length < 9223372036854775807) (hQ : Q (.bool (decide (xs = ys))) H) : callV Try.prog (fnV fn_ref01_SameAll) [a, b] H Q := by
  apply S_ref01_SameAll_of
  unfold S_ref01_SameAll
  refine ha.len (hb.len ?_)
  try simp only [sv_cons, sv_cons1, sc_cons, sc_cons1, asB_bool, ifB_true, ifB_false, un_not, bin_lss, bin_leq, bin_gtr, bin_geq, bin_eql, bin_neq, bin_add, bin_sub, bin_mul, ok_int, ok_bool, ok_slice, ok_str, ok_ptr, ok_map, ok_func, ok_iface, ok_nil, List.all_cons, List.all_nil, Bool.and_true, Bool.true_and, seg, setSeg, List.drop_succ_cons, List.drop_zero, List.take_succ_cons, List.take_zero, List.cons_append, List.nil_append, List.append_nil, List.length_cons, List.length_nil, List.drop_nil, List.size_toArray, Nat.reduceAdd, Nat.reduceLeDiff, Nat.reduceBEq, Nat.zero_add, Nat.le_refl, decide_true, mkV, List.headD_cons, cellsV, w_fldV, w_ext, w_fldP, List.getElem?_toArray, List.getElem?_cons_zero, List.getElem?_cons_succ, beq_self_eq_true, selV]
  refine ifD_of (fun hne => ?_) (fun heq => ?_)
  · rw [decide_eq_false (fun e => hne (by rw [e]))] at hQ; exact hQ
  have heq : xs.length = ys.length := by omega
  refine loop_up xs.length (fun i s H' => s = [[.int .i64 (i : Int)]] ∧ H' = H ∧ xs.take i = ys.take i) ⟨rfl, rfl, by simp⟩ ?_
  rintro i s H' K hi ⟨rfl, rfl, ht⟩ hK
  refine ha.len ?_
  try simp only [sv_cons, sv_cons1, sc_cons, sc_cons1, asB_bool, ifB_true, ifB_false, un_not, bin_lss, bin_leq, bin_gtr, bin_geq, bin_eql, bin_neq, bin_add, bin_sub, bin_mul, ok_int, ok_bool, ok_slice, ok_str, ok_ptr, ok_map, ok_func, ok_iface, ok_nil, List.all_cons, List.all_nil, Bool.and_true, Bool.true_and, seg, setSeg, List.drop_succ_cons, List.drop_zero, List.take_succ_cons, List.take_zero, List.cons_append, List.nil_append, List.append_nil, List.length_cons, List.length_nil, List.drop_nil, List.size_toArray, Nat.reduceAdd, Nat.reduceLeDiff, Nat.reduceBEq, Nat.zero_add, Nat.le_refl, decide_true, mkV, List.headD_cons, cellsV, w_fldV, w_ext, w_fldP, List.getElem?_toArray, List.getElem?_cons_zero, List.getElem?_cons_succ, beq_self_eq_true, selV]
  refine ifD_of (fun hlt => ?_) (fun hge => ?_)
  · have hlt : i < xs.length := by omega
    have hlt' : i < ys.length := by omega
    refine ha.getS (List.getElem?_eq_getElem hlt) fun u hu => hb.getS (List.getElem?_eq_getElem hlt') fun w hw => ?_
    refine c_ref01_Same hu hw ?_
    try simp only [sv_cons, sv_cons1, sc_cons, sc_cons1, asB_bool, ifB_true, ifB_false, un_not, bin_lss, bin_leq, bin_gtr, bin_geq, bin_eql, bin_neq, bin_add, bin_sub, bin_mul, ok_int, ok_bool, ok_slice, ok_str, ok_ptr, ok_map, ok_func, ok_iface, ok_nil, List.all_cons, List.all_nil, Bool.and_true, Bool.true_and, seg, setSeg, List.drop_succ_cons, List.drop_zero, List.take_succ_cons, List.take_zero, List.cons_append, List.nil_append, List.append_nil, List.length_cons, List.length_nil, List.drop_nil, List.size_toArray, Nat.reduceAdd, Nat.reduceLeDiff, Nat.reduceBEq, Nat.zero_add, Nat.le_refl, decide_true, mkV, List.headD_cons, cellsV, w_fldV, w_ext, w_fldP, List.getElem?_toArray, List.getElem?_cons_zero, List.getElem?_cons_succ, beq_self_eq_true, selV]
    by_cases he : xs[i] = ys[i]
    · rw [decide_eq_true he]
      simp only [Bool.not_true, ifB_false]
      rw [wrap_succ (by omega)]
      exact hK _ _ hlt ⟨rfl, rfl, take_eq_step hlt hlt' ht he⟩
    · rw [decide_eq_false he]
      simp only [Bool.not_false, ifB_true]
      rw [decide_eq_false (fun e => he (by subst e; rfl))] at hQ; exact hQ
  · have : i = xs.length := by omega
    subst this
    rw [List.take_length, heq, List.take_length] at ht
    rw [decide_eq_true ht] at hQ; exact hQ

/-! ### How great a device is -/

theorem w_min {q q' : IntKind} {a b : Int} {k : Value → Prop} : minV (.int q a) (.int q' b) k = k (.int q (if b < a then b else a)) := rfl

/-! ### Twins -/

/-- A copy of bytes. -/
theorem clone_appL {e' : Nat} {z' : List Value} {x t : Value} {bs : By} {b0 : Nat} {k : Value → Heap → Prop} (ht : Ow rU8 H b0 (fun _ => False) t []) (hx : Sl rU8 H A x bs) (hz' : z'.length = 1) (hl : bs.length ≤ 140737488355328)
    (hk : ∀ u H' b, Ow rU8 H' b (fun _ => False) u bs → Fr (fun y => y + 1 ≠ b0) H H' → (b = b0 ∨ (b = H.size + 1 ∧ G H H')) → k u H') : appS e' 1 1 z' t x H k := by
  refine ht.app hx.src.f8 rfl (by omega) hz' (fun y hy hlt => by simp at hy) (by simp; omega) (by simp; omega) fun u H2 b' ho hf hb hg => ?_
  refine hk u H2 b' (by simpa using ho.mono (A' := fun _ => False) fun y hy _ => by simp at hy) hf ?_
  rcases hb with h | h
  · exact .inl h
  · exact .inr ⟨h, hg h⟩
theorem clone_app {e' : Nat} {z' : List Value} {x t : Value} {bs : By} {b0 : Nat} {k : Value → Heap → Prop} (ht : Ow rU8 H b0 (fun _ => False) t []) (hx : Sl rU8 H A x bs) (hz' : z'.length = 1) (hl : bs.length ≤ 1000000)
    (hk : ∀ u H' b, Ow rU8 H' b (fun _ => False) u bs → Fr (fun y => y + 1 ≠ b0) H H' → (b = b0 ∨ (b = H.size + 1 ∧ G H H')) → k u H') : appS e' 1 1 z' t x H k := clone_appL ht hx hz' (by omega) hk

theorem clone_of {e e' : Nat} {z z' : List Value} {x : Value} {bs : By} {k : Value → Heap → Prop} (hx : Sl rU8 H A x bs) (hz' : z'.length = 1) (hl : bs.length ≤ 1000000)
    (hk : ∀ u H' b, Ow rU8 H' b (fun _ => False) u bs → G H H' → H.size < b → b ≤ H'.size → k u H') : bldS e 1 false z 0 [] H fun t H => appS e' 1 1 z' t x H k := by
  refine bld_nil rU8 fun t H1 ht g1 s1 => clone_app ht (hx.g g1) hz' hl fun u H2 b ho hf hb => ?_
  have := ho.lt
  exact hk u H2 b ho (g1.then hf fun y hy => show y + 1 ≠ H.size + 1 by omega) (by omega) this

/-- What comes of copying a list of bytes: an own list, of fresh bytes. -/
structure Cl (H H' : Heap) (v : Value) (b : Nat) (vs : List Value) (F : Nat → Prop) (xs : List By) : Prop where
  own : Ow rV H' b (fun _ => False) v vs
  leaves : All2 (Lf H' F) vs xs
  fresh : b = 0 ∨ H.size < b
  freshF : ∀ y, F y → H.size ≤ y ∧ y < H'.size ∧ y + 1 ≠ b
  g : G H H'

theorem Cl.nil {H' : Heap} (g : G H H') : Cl H H' (.slice none 0 0) 0 [] (fun _ => False) [] := ⟨Ow.nil _ _ _, .nil _, .inl rfl, fun y h => h.elim, g⟩

/-- One more, fresh bytes. -/
theorem Cl.push {e e' bytes bu b : Nat} {z z' : List Value} {v u : Value} {vs : List Value} {F : Nat → Prop} {xs : List By} {x : By} {H1 H2 : Heap} {k : Value → Heap → Prop} (h : Cl H H1 v b vs F xs) (g : G H1 H2)
    (hu : Ow rU8 H2 bu (fun _ => False) u x) (hb : bu = 0 ∨ H1.size < bu) (hz : z.length = 1) (hz' : z'.length = 1) (hl : (xs.length + 1) * bytes ≤ 140737488355328) (hl2 : xs.length < 1000000)
    (hk : ∀ v' H3 b', Cl H H3 v' b' (vs ++ [u]) (fun y => F y ∨ y + 1 = bu) (xs ++ [x]) → Fr (fun y => y + 1 ≠ b) H2 H3 → (b' = b ∨ H2.size < b') → k v' H3) : bldS e 1 false z 1 [(0, u)] H2 fun t H => appS e' 1 bytes z' v t H k := by
  have hlen := h.leaves.1
  have hlu := hu.lt
  have hb1 := h.own.lt
  have hs := g.size
  have hs0 := h.g.size
  refine (h.own.g g).push (vrep_V (A := fun _ => False) hu.okcv) rfl (by omega) (fun _ => rfl) hz hz' (fun y hy _ => by simp at hy) (by rw [hlen]; exact hl) (by rw [hlen]; omega) fun v' H3 b' ho hf hb' _ => ?_
  have hs3 := hf.size
  refine hk v' H3 b' ⟨ho.mono fun y hy _ => by simp at hy, ?_, by have := h.fresh; omega, fun y hy => ?_, (h.g.trans g).then hf fun y hy => ?_⟩ hf hb'
  · refine (h.leaves.imp fun w y hw => (hw.up g (F' := F) fun z hz _ => ⟨trivial, hz⟩).up hf fun z hz _ => ⟨(h.freshF z hz).2.2, .inl hz⟩).snoc ?_
    exact (Ow.lf hu).up hf fun z hz _ => ⟨show z + 1 ≠ b by have : z + 1 = bu := hz; omega, .inr hz⟩
  · rcases hy with hy | hy
    · have := h.freshF y hy; omega
    · omega
  · show y + 1 ≠ b
    have := h.fresh; omega

theorem c_ref12_TwinAll {a : Value} {xs : List By} (ha : Sl rBy H A a xs) (hl : xs.length ≤ 10000) (hl2 : ∀ x ∈ xs, x.length ≤ 1000000) (hQ : ∀ v b vs F H', Cl H H' v b vs F xs → Q v H') : callV Try.prog (fnV fn_ref12_TwinAll) [a] H Q := by
  apply S_ref12_TwinAll_of
  unfold S_ref12_TwinAll
  refine loop_up xs.length (fun i s H' => ∃ v b vs F, Cl H H' v b vs F (xs.take i) ∧ s = [[v], [.int .i64 (i : Int)]]) ⟨_, _, _, _, by simpa using Cl.nil (G.fr (Fr.refl _ H)), rfl⟩ ?_
  rintro i s H' K hi ⟨v, b, vs, F, hc, rfl⟩ hK
  refine ha.len ?_
  try simp only [sv_cons, sv_cons1, sc_cons, sc_cons1, asB_bool, ifB_true, ifB_false, un_not, bin_lss, bin_leq, bin_gtr, bin_geq, bin_eql, bin_neq, bin_add, bin_sub, bin_mul, ok_int, ok_bool, ok_slice, ok_str, ok_ptr, ok_map, ok_func, ok_iface, ok_nil, List.all_cons, List.all_nil, Bool.and_true, Bool.true_and, seg, setSeg, List.drop_succ_cons, List.drop_zero, List.take_succ_cons, List.take_zero, List.cons_append, List.nil_append, List.append_nil, List.length_cons, List.length_nil, List.drop_nil, List.size_toArray, Nat.reduceAdd, Nat.reduceLeDiff, Nat.reduceBEq, Nat.zero_add, Nat.le_refl, decide_true, mkV, List.headD_cons, cellsV, w_fldV, w_ext, w_fldP, List.getElem?_toArray, List.getElem?_cons_zero, List.getElem?_cons_succ, beq_self_eq_true, selV]
  refine ifD_of (fun h1 => ?_) (fun h1 => ?_)
  · have hlt : i < xs.length := by omega
    have hx : xs[i]? = some xs[i] := List.getElem?_eq_getElem hlt
    have htk : (xs.take i).length = i := by rw [List.length_take]; omega
    refine bld_nil rU8 fun t H1 ht g1 s1 => ?_
    refine (ha.g (hc.g.trans g1)).getS hx fun u hu => clone_app ht hu rfl (hl2 _ (List.getElem_mem hlt)) fun w H2 bw hw hf hb => ?_
    have hwl := hw.lt
    have g2 : G H' H2 := g1.then hf fun y hy => show y + 1 ≠ H'.size + 1 by omega
    refine hc.push g2 hw (.inr (by omega)) rfl rfl (by rw [htk]; omega) (by rw [htk]; omega) fun v' H3 b' hc' _ _ => ?_
    try simp only [sv_cons, sv_cons1, sc_cons, sc_cons1, asB_bool, ifB_true, ifB_false, un_not, bin_lss, bin_leq, bin_gtr, bin_geq, bin_eql, bin_neq, bin_add, bin_sub, bin_mul, ok_int, ok_bool, ok_slice, ok_str, ok_ptr, ok_map, ok_func, ok_iface, ok_nil, List.all_cons, List.all_nil, Bool.and_true, Bool.true_and, seg, setSeg, List.drop_succ_cons, List.drop_zero, List.take_succ_cons, List.take_zero, List.cons_append, List.nil_append, List.append_nil, List.length_cons, List.length_nil, List.drop_nil, List.size_toArray, Nat.reduceAdd, Nat.reduceLeDiff, Nat.reduceBEq, Nat.zero_add, Nat.le_refl, decide_true, mkV, List.headD_cons, cellsV, w_fldV, w_ext, w_fldP, List.getElem?_toArray, List.getElem?_cons_zero, List.getElem?_cons_succ, beq_self_eq_true, selV]
    rw [wrap_i64 (by unfold i64; omega)]
    exact hK _ _ hlt ⟨v', b', _, _, by rw [List.take_succ_eq_append_getElem hlt]; exact hc', by simp⟩
  · have : i = xs.length := by omega
    subst this
    rw [List.take_length] at hc
    exact hQ v b vs F H' hc

/-- What comes of copying a device. -/
structure Cd (H H' : Heap) (v : Value) (d : Dv) : Prop where
  ex : ∃ b bs vs vss F, Ow2R H' (fun y => H.size ≤ y ∧ ¬ F y ∧ y < H'.size) b bs v vs vss ∧ All2 (fun ws x => All2 (Lf H' F) ws x) vss d ∧ (∀ y, F y → H.size ≤ y ∧ y < H'.size)
  g : G H H'

theorem Cd.nil {H' : Heap} (g : G H H') : Cd H H' (.slice none 0 0) [] := ⟨⟨0, [], [], [], fun _ => False, Ow2R.nil _ _, .nil _, fun y h => h.elim⟩, g⟩

theorem Cd.push {e e' bytes bu : Nat} {z z' : List Value} {v u : Value} {ws : List Value} {F1 : Nat → Prop} {d : Dv} {x : List By} {H1 H2 : Heap} {k : Value → Heap → Prop} (h : Cd H H1 v d)
    (hu : Cl H1 H2 u bu ws F1 x) (hz : z.length = 1) (hz' : z'.length = 1) (hl : (d.length + 1) * bytes ≤ 140737488355328) (hl2 : d.length < 1000000)
    (hk : ∀ v' H3, Cd H H3 v' (d ++ [x]) → k v' H3) : bldS e 1 false z 1 [(0, u)] H2 fun t H => appS e' 1 bytes z' v t H k := by
  obtain ⟨⟨b, bs, vs, vss, F, h1, h2, h3⟩, g⟩ := h
  have hlv := h1.lenV
  have hld := h2.1
  have hs1 := hu.g.size
  have hs0 := g.size
  have hb := h1.outer.lt
  have hbu := hu.own.lt
  refine (h1.outer.g hu.g).push (vrep_V (A := fun _ => False) hu.own.okcv) rfl (by omega) (fun _ => rfl) hz hz' (fun y hy _ => by simp at hy) (by rw [hlv, hld]; exact hl) (by rw [hlv, hld]; omega) fun v' H3 b' ho hf hb' _ => ?_
  have hs3 := hf.size
  have hbo := ho.lt
  refine hk v' H3 ⟨⟨b', bs ++ [bu], vs ++ [u], vss ++ [ws], fun y => F y ∨ F1 y, ?_, ?_, fun y hy => ?_⟩, (g.trans hu.g).then hf fun y hy => ?_⟩
  · have hfr := hu.fresh
    have hbA : ∀ k, b = k + 1 → H.size ≤ k := fun k hk => (h1.inA k hk).1
    refine (h1.up hu.g fun _ _ _ => trivial).snoc hu.own (ho.mono fun y hy _ => by simp at hy) hf (by omega) (fun y hy _ => ⟨hy.1, fun hF => hF.elim hy.2.1 fun h => by have := (hu.freshF y h).1; omega, by omega⟩) (fun k hk => ?_) (fun k hk => ?_) fun i k hk e => ?_
    · rcases hb' with e | e
      · have := h1.inA k (by omega)
        exact ⟨this.1, fun hF => hF.elim this.2.1 fun h => by have := (hu.freshF k h).1; omega, by omega⟩
      · exact ⟨by omega, fun hF => hF.elim (fun h => by have := h3 k h; omega) fun h => by have := (hu.freshF k h).2.1; omega, by omega⟩
    · exact ⟨⟨by omega, fun hF => hF.elim (fun h => by have := h3 k h; omega) fun h => by have := (hu.freshF k h).2.2; omega, by omega⟩, by omega⟩
    · have := (h1.inB i k hk).1.2.2
      omega
  · have hbF : ∀ y, F y → y + 1 ≠ b := fun y hF e => (h1.inA y e.symm).2.1 hF
    refine (h2.imp fun ws x h => h.imp fun w x hw => (hw.up hu.g (F' := F) fun z hz _ => ⟨trivial, hz⟩).up hf fun z hz _ => ⟨hbF z hz, .inl hz⟩).snoc ?_
    exact hu.leaves.imp fun w x hw => hw.up hf fun z hz _ => ⟨show z + 1 ≠ b by have := (hu.freshF z hz).1; omega, .inr hz⟩
  · rcases hy with hy | hy
    · have := h3 y hy; omega
    · have := hu.freshF y hy; omega
  · show y + 1 ≠ b
    have : ∀ k, b = k + 1 → H.size ≤ k := fun k hk => (h1.inA k hk).1
    intro e
    have := this y e.symm; omega

theorem Cd.out {H' : Heap} {v : Value} {d : Dv} (h : Cd H H' v d) : ∃ O F, DvO H' O F v d ∧ ∀ y, O y ∨ F y → H.size ≤ y ∧ y < H'.size := by
  obtain ⟨⟨b, bs, vs, vss, F, h1, h2, h3⟩, g⟩ := h
  exact ⟨_, F, ⟨⟨vss, ⟨b, bs, vs, h1⟩, h2⟩, fun y hy => hy.2.1⟩, fun y hy => hy.elim (fun h => ⟨h.1, h.2.2⟩) (h3 y)⟩

theorem Cd.of {H' H1 : Heap} {v : Value} {d : Dv} (h : Cd H1 H' v d) (g : G H H1) : Cd H H' v d := by
  obtain ⟨⟨b, bs, vs, vss, F, h1, h2, h3⟩, g'⟩ := h
  have := g.size
  exact ⟨⟨b, bs, vs, vss, F, h1.mono fun y hy _ => ⟨by omega, hy.2⟩, h2, fun y hy => by have := h3 y hy; omega⟩, g.trans g'⟩

/-! ### May a device be? -/

/-! ### Buckets that are asked -/

end Go.Proofs.Ytlalkgkicccjiaa
