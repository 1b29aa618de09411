/- Contracts: what was seen, replayed, as the reference has it; devices of noughts; lists of what is seen. -/
import Derived.Test.YtelfpkegpffajaaConRef12b
namespace Go.Proofs.Ytelfpkegpffajaa
open Go.Ab Go.Md
set_option linter.unusedVariables false
set_option linter.unusedSimpArgs false
set_option maxRecDepth 20000

variable {H : Heap} {Q : Value → Heap → Prop} {A B C : Nat → Prop}

abbrev cSee (s : See) (u : Value) : List Value := [.int .u8 s.kind, .int .i64 s.level, .int .i64 s.bucket, u]

theorem c_ref12_MaySee {a u : Value} {d : Dv} {s : See} (ha : Sl rBys H A a d) (hu : Sl rU8 H B u s.bytes) (hd : Mid d) (hp : ∀ (i : Nat) x, d[i]? = some x → 0 < x.length) (hr : IntKind.i64.wrap s.bucket = s.bucket)
    (hQ : ∀ H', G H H' → Q (.bool (seeOk d s)) H') : callV Try.prog (fnV fn_ref12_MaySee) [.agg #[a], .agg (cSee s u).toArray] H Q := by
  apply S_ref12_MaySee_of
  unfold S_ref12_MaySee
  refine newT_of fun H1 g1 _ => newT_of fun H2 g2 _ => ?_
  have g := g1.trans g2
  have key : ∀ (K : List (List Value) → Heap → Prop), (s.kind = 1 ∨ s.kind = 2) → (∀ H', G H H' → K [[.bool (seeOk d s)]] H') → bldS 3 1 false (zeroL Try.prog 3) 1 [(0, (.int .i64 s.bucket))] H2 fun t19 H =>
      callV Try.prog (fnV fn_ref12_asked) [(.agg #[a]), .int .i64 s.level, t19] H fun t20 H =>
      asB t20 fun b22 =>
      ifB b22 (
      lenSl u H fun t25 =>
      idxS 1 a (.int .i64 s.level) fun t30 =>
      loadP false 1 t30 H fun t31 =>
      idxS 1 t31 (.int .i64 0) fun t32 =>
      loadP false 1 t32 H fun t33 =>
      lenSl t33 H fun t34 =>
      binV (.int .i64) .eql t25 t34 fun t35 =>
      K [[t35]] H) (
      K [[(.bool false)]] H) := by
    intro K hk hK
    refine bld_one (R := rI .i64) (A := fun _ => False) ⟨[.int .i64 s.bucket], rfl, rfl, hr⟩ rfl (fun _ => rfl) rfl fun t H3 ht g3 s3 => ?_
    have g3 := g.trans g3
    refine c_ref12_asked (ha.g g3) (ht.sl (A' := fun _ => True) (fun _ _ _ => trivial) fun _ _ => trivial) (by simp) fun H4 g4 => ?_
    have g4 := g3.trans g4
    try simp only [sv_cons, sv_cons1, sc_cons, sc_cons1, asB_bool, ifB_true, ifB_false, un_not, bin_lss, bin_leq, bin_gtr, bin_geq, bin_eql, bin_neq, bin_add, bin_sub, bin_mul, ok_int, ok_bool, ok_slice, ok_str, ok_ptr, ok_map, ok_func, ok_iface, ok_nil, List.all_cons, List.all_nil, Bool.and_true, Bool.true_and, seg, setSeg, List.drop_succ_cons, List.drop_zero, List.take_succ_cons, List.take_zero, List.cons_append, List.nil_append, List.append_nil, List.length_cons, List.length_nil, List.drop_nil, List.size_toArray, Nat.reduceAdd, Nat.reduceLeDiff, Nat.reduceBEq, Nat.zero_add, Nat.le_refl, decide_true, mkV, List.headD_cons, cellsV, w_fldV, w_ext, w_fldP, List.getElem?_toArray, List.getElem?_cons_zero, List.getElem?_cons_succ, beq_self_eq_true, selV]
    have hkb : (s.kind == 1 || s.kind == 2) = true := by rcases hk with h | h <;> simp [h]
    by_cases he : levE d s.level [s.bucket] = 0
    · rw [decide_eq_true he]
      try simp only [ifB_true]
      obtain ⟨hlev, hbs⟩ := levE_zero.1 he
      have hlv := lvl_get hlev
      have hb0 : (lvlOf d s.level)[0]? = some (bk d s.level 1) := bk_get (b := 1) ⟨by omega, by have := hp _ _ hlv; omega⟩
      refine hu.len ((ha.g g4).getSZ hlev.1 hlv fun w hw => hw.getSZ (z := 0) (by omega) hb0 fun x hx => hx.len ?_)
      try simp only [sv_cons, sv_cons1, sc_cons, sc_cons1, asB_bool, ifB_true, ifB_false, un_not, bin_lss, bin_leq, bin_gtr, bin_geq, bin_eql, bin_neq, bin_add, bin_sub, bin_mul, ok_int, ok_bool, ok_slice, ok_str, ok_ptr, ok_map, ok_func, ok_iface, ok_nil, List.all_cons, List.all_nil, Bool.and_true, Bool.true_and, seg, setSeg, List.drop_succ_cons, List.drop_zero, List.take_succ_cons, List.take_zero, List.cons_append, List.nil_append, List.append_nil, List.length_cons, List.length_nil, List.drop_nil, List.size_toArray, Nat.reduceAdd, Nat.reduceLeDiff, Nat.reduceBEq, Nat.zero_add, Nat.le_refl, decide_true, mkV, List.headD_cons, cellsV, w_fldV, w_ext, w_fldP, List.getElem?_toArray, List.getElem?_cons_zero, List.getElem?_cons_succ, beq_self_eq_true, selV]
      have := hK H4 g4
      unfold seeOk at this
      rw [hkb, he] at this
      have e : decide ((s.bytes.length : Int) = ((bk d s.level 1).length : Int)) = ((true && (0 : Int) == 0) && ((s.bytes.length : Int) == bkSize d s.level)) := by
        unfold bkSize
        by_cases h : (s.bytes.length : Int) = ((bk d s.level 1).length : Int) <;> simp [h]
      rw [e]; exact this
    · rw [decide_eq_false he]
      try simp only [ifB_false]
      have := hK H4 g4
      unfold seeOk at this
      rw [hkb, show (levE d s.level [s.bucket] == 0) = false from by simpa using he] at this
      exact this
  refine join_of (fun s' H' => G H H' ∧ s' = [[.bool (seeOk d s)]]) (fun K hK => ?_) ?_
  · try simp only [sv_cons, sv_cons1, sc_cons, sc_cons1, asB_bool, ifB_true, ifB_false, un_not, bin_lss, bin_leq, bin_gtr, bin_geq, bin_eql, bin_neq, bin_add, bin_sub, bin_mul, ok_int, ok_bool, ok_slice, ok_str, ok_ptr, ok_map, ok_func, ok_iface, ok_nil, List.all_cons, List.all_nil, Bool.and_true, Bool.true_and, seg, setSeg, List.drop_succ_cons, List.drop_zero, List.take_succ_cons, List.take_zero, List.cons_append, List.nil_append, List.append_nil, List.length_cons, List.length_nil, List.drop_nil, List.size_toArray, Nat.reduceAdd, Nat.reduceLeDiff, Nat.reduceBEq, Nat.zero_add, Nat.le_refl, decide_true, mkV, List.headD_cons, cellsV, w_fldV, w_ext, w_fldP, List.getElem?_toArray, List.getElem?_cons_zero, List.getElem?_cons_succ, beq_self_eq_true, selV]
    refine ifD_of (fun h1 => key K (.inl h1) fun H' g => hK _ _ ⟨g, rfl⟩) (fun h1 => ?_)
    refine ifD_of (fun h2 => key K (.inr h2) fun H' g => hK _ _ ⟨g, rfl⟩) (fun h2 => ?_)
    refine hK _ _ ⟨g, ?_⟩
    unfold seeOk
    rw [show (s.kind == 1) = false from by simpa using h1, show (s.kind == 2) = false from by simpa using h2]; rfl
  · rintro s' H' ⟨g, rfl⟩
    exact hQ _ g

theorem behind_snoc {d : Dv} {l : List See} {s : See} : behind d (l ++ [s]) = behind1 (behind d l) s := by simp [behind]

/-- What may be seen of a device may be seen of what it becomes. -/
theorem behind_len {d : Dv} : ∀ {l : List See}, (behind d l).length = d.length ∧ ∀ level : Int, (0 ≤ level ∧ level < d.length) → (lvlOf (behind d l) level).length = (lvlOf d level).length := by
  suffices h : ∀ (l : List See) (d' : Dv), d'.length = d.length → (∀ level : Int, (0 ≤ level ∧ level < d.length) → (lvlOf d' level).length = (lvlOf d level).length) →
      (l.foldl behind1 d').length = d.length ∧ ∀ level : Int, (0 ≤ level ∧ level < d.length) → (lvlOf (l.foldl behind1 d') level).length = (lvlOf d level).length from fun {l} => h l d rfl fun _ _ => rfl
  intro l
  induction l with
  | nil => exact fun d' h1 h2 => ⟨h1, h2⟩
  | cons s l ih =>
    intro d' h1 h2
    refine ih (behind1 d' s) ?_ fun level hl => ?_
    · unfold behind1; split
      · rw [len_put]; exact h1
      · exact h1
    · unfold behind1; split
      · rw [← h2 level hl]
        by_cases hs : s.level.toNat = level.toNat
        · have hsl : lvlOf (putB d' s.level s.bucket s.bytes) level = (lvlOf d' s.level).set (s.bucket - 1).toNat s.bytes := by
            unfold putB
            conv => lhs; unfold lvlOf
            rw [List.getD_eq_getElem?_getD, List.getElem?_set, if_pos hs, if_pos (by omega)]; rfl
          rw [hsl]
          unfold lvlOf
          rw [hs]; simp
        · unfold putB
          conv => lhs; unfold lvlOf
          rw [List.getD_eq_getElem?_getD, List.getElem?_set_ne hs]
          unfold lvlOf
          rw [List.getD_eq_getElem?_getD]
      · exact h2 level hl

theorem seeOk_iff {d : Dv} {s : See} : seeOk d s = true ↔ (s.kind = 1 ∨ s.kind = 2) ∧ ((0 ≤ s.level ∧ s.level < d.length) ∧ (1 ≤ s.bucket ∧ s.bucket ≤ (lvlOf d s.level).length)) ∧ (s.bytes.length : Int) = bkSize d s.level := by
  unfold seeOk
  simp only [Bool.and_eq_true, Bool.or_eq_true, beq_iff_eq]
  rw [levE_zero]
  simp [and_assoc]

theorem seeOk_len {d : Dv} {s : See} (hd : Mid d) (h : seeOk d s = true) : s.bytes.length ≤ 1000000 := by
  have h1 := (seeOk_iff.1 h).2.2
  have h2 := mid_bk hd (level := s.level) (b := 1)
  unfold bkSize at h1
  omega

/-- A device of the function's own, of fresh blocks. -/
structure Dn (m : Nat) (H : Heap) (O F : Nat → Prop) (v : Value) (d : Dv) : Prop where
  dv : DvO H O F v d
  inO : ∀ y, O y ∨ F y → m ≤ y ∧ y < H.size

theorem Dn.g {m : Nat} {H' : Heap} {O F : Nat → Prop} {v : Value} {d : Dv} (h : Dn m H O F v d) (hf : G H H') : Dn m H' O F v d := ⟨h.dv.g hf, fun y hy => by have := h.inO y hy; have := hf.size; omega⟩
theorem Dn.leaf {m bu : Nat} {H' : Heap} {O F : Nat → Prop} {v u : Value} {d : Dv} {x : By} (h : Dn m H O F v d) (hm : m ≤ H.size) (hf : G H H') (hu : Ow rU8 H' bu (fun _ => False) u x) (hb : H.size < bu) :
    Dn m H' O (fun y => F y ∨ y + 1 = bu) v d ∧ Lf H' (fun y => F y ∨ y + 1 = bu) u x := by
  have hl := hu.lt
  have hs := hf.size
  refine ⟨⟨(h.dv.g hf).wider (fun y hy => .inl hy) fun y hO => fun hF => hF.elim (h.dv.dis y hO) fun e => by have := h.inO y (.inl hO); omega, fun y hy => ?_⟩, (Ow.lf hu).fr fun y hy _ => ⟨.inr hy, rfl⟩⟩
  rcases hy with hy | hy | hy
  · have := h.inO y (.inl hy); omega
  · have := h.inO y (.inr hy); omega
  · omega
theorem Dn.put {m : Nat} {H' : Heap} {O F : Nat → Prop} {v : Value} {d d' : Dv} (h : Dn m H O F v d) (hd : DvO H' O F v d') (hs : H'.size = H.size) : Dn m H' O F v d' := ⟨hd, fun y hy => by have := h.inO y hy; omega⟩
theorem Dn.of {m : Nat} {H' : Heap} {O F : Nat → Prop} {v : Value} {d : Dv} (h : DvO H' O F v d) (hO : ∀ y, O y ∨ F y → m ≤ y ∧ y < H'.size) : Dn m H' O F v d := ⟨h, hO⟩
theorem Dn.sl {m : Nat} {O F : Nat → Prop} {v : Value} {d : Dv} (h : Dn m H O F v d) : Sl rBys H (fun y => m ≤ y) v d := h.dv.sl fun y hy => (h.inO y hy).1

theorem c_ref12_Behind {a l : Value} {d : Dv} {ss : List See} (ha : Sl rBys H A a d) (hl : Sl rSee H B l ss) (hd : Mid d) (hln : ss.length ≤ 1000000) (hok : ∀ s ∈ ss, seeOk d s = true) (hby : ∀ s ∈ ss, s.bytes.length ≤ 1000000) (h64 : ∀ s ∈ ss, i64 s.bucket)
    (hQ : ∀ v H', Sl rBys H' (fun y => H.size ≤ y) v (behind d ss) → G H H' → Q (.agg #[v]) H') : callV Try.prog (fnV fn_ref12_Behind) [.agg #[a], l] H Q := by
  apply S_ref12_Behind_of
  unfold S_ref12_Behind
  have ha := ha.old
  have hl := hl.old
  refine newT_of fun H1 g1 _ => newT_of fun H2 g2 _ => c_ref12_Twin (ha.g (g1.trans g2)) hd fun v H3 hc => newT_of fun H4 g4 _ => ?_
  have hc := hc.of (g1.trans g2)
  obtain ⟨O, F, hdv, hOF⟩ := hc.out
  have gg := hc.g.trans g4
  try simp only [sv_cons, sv_cons1, sc_cons, sc_cons1, asB_bool, ifB_true, ifB_false, un_not, bin_lss, bin_leq, bin_gtr, bin_geq, bin_eql, bin_neq, bin_add, bin_sub, bin_mul, ok_int, ok_bool, ok_slice, ok_str, ok_ptr, ok_map, ok_func, ok_iface, ok_nil, List.all_cons, List.all_nil, Bool.and_true, Bool.true_and, seg, setSeg, List.drop_succ_cons, List.drop_zero, List.take_succ_cons, List.take_zero, List.cons_append, List.nil_append, List.append_nil, List.length_cons, List.length_nil, List.drop_nil, List.size_toArray, Nat.reduceAdd, Nat.reduceLeDiff, Nat.reduceBEq, Nat.zero_add, Nat.le_refl, decide_true, mkV, List.headD_cons, cellsV, w_fldV, w_ext, w_fldP, List.getElem?_toArray, List.getElem?_cons_zero, List.getElem?_cons_succ, beq_self_eq_true, selV, hdv.okcv]
  refine loop_up ss.length (fun i s H' => G H H' ∧ ∃ F, Dn H.size H' O F v (behind d (ss.take i)) ∧ s = [[.int .i64 (i : Int)]])
    ⟨gg, F, by simpa [behind] using (Dn.of hdv hOF).g g4, rfl⟩ ?_
  rintro i s H' K hi ⟨g, F, ht, rfl⟩ hK
  refine (hl.g g).len ?_
  try simp only [sv_cons, sv_cons1, sc_cons, sc_cons1, asB_bool, ifB_true, ifB_false, un_not, bin_lss, bin_leq, bin_gtr, bin_geq, bin_eql, bin_neq, bin_add, bin_sub, bin_mul, ok_int, ok_bool, ok_slice, ok_str, ok_ptr, ok_map, ok_func, ok_iface, ok_nil, List.all_cons, List.all_nil, Bool.and_true, Bool.true_and, seg, setSeg, List.drop_succ_cons, List.drop_zero, List.take_succ_cons, List.take_zero, List.cons_append, List.nil_append, List.append_nil, List.length_cons, List.length_nil, List.drop_nil, List.size_toArray, Nat.reduceAdd, Nat.reduceLeDiff, Nat.reduceBEq, Nat.zero_add, Nat.le_refl, decide_true, mkV, List.headD_cons, cellsV, w_fldV, w_ext, w_fldP, List.getElem?_toArray, List.getElem?_cons_zero, List.getElem?_cons_succ, beq_self_eq_true, selV]
  refine ifD_of (fun h1 => ?_) (fun h1 => ?_)
  · have hlt : i < ss.length := by omega
    have hx : ss[i]? = some ss[i] := List.getElem?_eq_getElem hlt
    have hsee := seeOk_iff.1 (hok _ (List.getElem_mem hlt))
    have hsb := hby _ (List.getElem_mem hlt)
    have hs64 := h64 _ (List.getElem_mem hlt)
    have tk : ss.take (i + 1) = ss.take i ++ [ss[i]] := List.take_succ_eq_append_getElem hlt
    have hs0 := g.size
    generalize ss[i] = s at *
    obtain ⟨hbl1, hbl2⟩ := behind_len (d := d) (l := ss.take i)
    refine (hl.g g).at rfl hx fun p cs hp hr => hp.fld1 (by rw [rSee.len hr]; simp [rSee]) fun p1 hp1 => ?_
    obtain ⟨u, rfl, hu⟩ := hr
    refine hp1.load rfl ?_
    try simp only [sv_cons, sv_cons1, sc_cons, sc_cons1, asB_bool, ifB_true, ifB_false, un_not, bin_lss, bin_leq, bin_gtr, bin_geq, bin_eql, bin_neq, bin_add, bin_sub, bin_mul, ok_int, ok_bool, ok_slice, ok_str, ok_ptr, ok_map, ok_func, ok_iface, ok_nil, List.all_cons, List.all_nil, Bool.and_true, Bool.true_and, seg, setSeg, List.drop_succ_cons, List.drop_zero, List.take_succ_cons, List.take_zero, List.cons_append, List.nil_append, List.append_nil, List.length_cons, List.length_nil, List.drop_nil, List.size_toArray, Nat.reduceAdd, Nat.reduceLeDiff, Nat.reduceBEq, Nat.zero_add, Nat.le_refl, decide_true, mkV, List.headD_cons, cellsV, w_fldV, w_ext, w_fldP, List.getElem?_toArray, List.getElem?_cons_zero, List.getElem?_cons_succ, beq_self_eq_true, selV]
    refine join_of (fun s' H'' => s' = [] ∧ G H H'' ∧ ∃ F', Dn H.size H'' O F' v (behind1 (behind d (ss.take i)) s)) (fun K' hK' => ?_) ?_
    · refine ifD_of (fun h2 => ?_) (fun h2 => hK' _ _ ⟨rfl, g, F, by unfold behind1; rw [if_neg h2]; exact ht⟩)
      have hlev : 0 ≤ s.level ∧ s.level < (behind d (ss.take i)).length := by rw [hbl1]; exact hsee.2.1.1
      have hdi := lvl_get hlev
      have hpl := hbl2 s.level hsee.2.1.1
      obtain ⟨wl, hr1, hr2, _, hput⟩ := ht.dv.getZ hlev.1 hdi
      refine (hl.g g).at rfl hx fun q cs hq hr => ?_
      obtain ⟨u1, rfl, _⟩ := hr
      refine hq.fld1 (by simp) fun q1 hq1 => hq1.load rfl ?_
      try simp only [sv_cons, sv_cons1, sc_cons, sc_cons1, asB_bool, ifB_true, ifB_false, un_not, bin_lss, bin_leq, bin_gtr, bin_geq, bin_eql, bin_neq, bin_add, bin_sub, bin_mul, ok_int, ok_bool, ok_slice, ok_str, ok_ptr, ok_map, ok_func, ok_iface, ok_nil, List.all_cons, List.all_nil, Bool.and_true, Bool.true_and, seg, setSeg, List.drop_succ_cons, List.drop_zero, List.take_succ_cons, List.take_zero, List.cons_append, List.nil_append, List.append_nil, List.length_cons, List.length_nil, List.drop_nil, List.size_toArray, Nat.reduceAdd, Nat.reduceLeDiff, Nat.reduceBEq, Nat.zero_add, Nat.le_refl, decide_true, mkV, List.headD_cons, cellsV, w_fldV, w_ext, w_fldP, List.getElem?_toArray, List.getElem?_cons_zero, List.getElem?_cons_succ, beq_self_eq_true, selV]
      refine hr1 _ _ fun r hr => hr.load rfl ?_
      try simp only [sv_cons, sv_cons1, sc_cons, sc_cons1, asB_bool, ifB_true, ifB_false, un_not, bin_lss, bin_leq, bin_gtr, bin_geq, bin_eql, bin_neq, bin_add, bin_sub, bin_mul, ok_int, ok_bool, ok_slice, ok_str, ok_ptr, ok_map, ok_func, ok_iface, ok_nil, List.all_cons, List.all_nil, Bool.and_true, Bool.true_and, seg, setSeg, List.drop_succ_cons, List.drop_zero, List.take_succ_cons, List.take_zero, List.cons_append, List.nil_append, List.append_nil, List.length_cons, List.length_nil, List.drop_nil, List.size_toArray, Nat.reduceAdd, Nat.reduceLeDiff, Nat.reduceBEq, Nat.zero_add, Nat.le_refl, decide_true, mkV, List.headD_cons, cellsV, w_fldV, w_ext, w_fldP, List.getElem?_toArray, List.getElem?_cons_zero, List.getElem?_cons_succ, beq_self_eq_true, selV]
      refine (hl.g g).at rfl hx fun q2 cs hq2 hr2 => ?_
      obtain ⟨u2, rfl, _⟩ := hr2
      refine hq2.fld1 (by simp) fun q3 hq3 => hq3.load rfl ?_
      try simp only [sv_cons, sv_cons1, sc_cons, sc_cons1, asB_bool, ifB_true, ifB_false, un_not, bin_lss, bin_leq, bin_gtr, bin_geq, bin_eql, bin_neq, bin_add, bin_sub, bin_mul, ok_int, ok_bool, ok_slice, ok_str, ok_ptr, ok_map, ok_func, ok_iface, ok_nil, List.all_cons, List.all_nil, Bool.and_true, Bool.true_and, seg, setSeg, List.drop_succ_cons, List.drop_zero, List.take_succ_cons, List.take_zero, List.cons_append, List.nil_append, List.append_nil, List.length_cons, List.length_nil, List.drop_nil, List.size_toArray, Nat.reduceAdd, Nat.reduceLeDiff, Nat.reduceBEq, Nat.zero_add, Nat.le_refl, decide_true, mkV, List.headD_cons, cellsV, w_fldV, w_ext, w_fldP, List.getElem?_toArray, List.getElem?_cons_zero, List.getElem?_cons_succ, beq_self_eq_true, selV]
      rw [wrap_i64 (x := s.bucket - 1) (by unfold i64 at hs64 ⊢; omega)]
      refine (hl.g g).at rfl hx fun q4 cs hq4 hr4 => ?_
      obtain ⟨u4, rfl, hu4⟩ := hr4
      refine hq4.fld1 (by simp) fun q5 hq5 => hq5.load rfl ?_
      try simp only [sv_cons, sv_cons1, sc_cons, sc_cons1, asB_bool, ifB_true, ifB_false, un_not, bin_lss, bin_leq, bin_gtr, bin_geq, bin_eql, bin_neq, bin_add, bin_sub, bin_mul, ok_int, ok_bool, ok_slice, ok_str, ok_ptr, ok_map, ok_func, ok_iface, ok_nil, List.all_cons, List.all_nil, Bool.and_true, Bool.true_and, seg, setSeg, List.drop_succ_cons, List.drop_zero, List.take_succ_cons, List.take_zero, List.cons_append, List.nil_append, List.append_nil, List.length_cons, List.length_nil, List.drop_nil, List.size_toArray, Nat.reduceAdd, Nat.reduceLeDiff, Nat.reduceBEq, Nat.zero_add, Nat.le_refl, decide_true, mkV, List.headD_cons, cellsV, w_fldV, w_ext, w_fldP, List.getElem?_toArray, List.getElem?_cons_zero, List.getElem?_cons_succ, beq_self_eq_true, selV]
      refine bld_nil rU8 fun t H5 ht5 g5 s5 => ⟨(hq5.g g5).load rfl rfl, (hq3.g g5).load rfl rfl, (hr.g g5).load rfl rfl, (hq1.g g5).load rfl rfl, ?_⟩
      refine clone_app ht5 (hu4.g g5) rfl hsb fun w1 H6 c1 hw1 hf6 hc1 => ?_
      have g6 : G H' H6 := g5.then hf6 fun y hy => show y + 1 ≠ H'.size + 1 by omega
      have l6 := hw1.lt
      refine ⟨(hq3.g g6).load rfl rfl, (hr.g g6).load rfl rfl, (hq1.g g6).load rfl rfl, ?_⟩
      obtain ⟨ht6, hlf⟩ := ht.leaf hs0 g6 hw1 (by omega)
      refine hput H6 _ g6.fr (fun y hy => .inl hy) ht6.dv.dis w1 s.bytes (s.bucket - 1) _ _ hlf (by omega) (by omega) fun H7 hd7 hf7 hs7 => ?_
      refine hK' _ _ ⟨rfl, (g.trans g6).then hf7 fun y hy => show ¬ O y from fun h => by have := (ht.inO y (.inl h)).1; omega, fun y => F y ∨ y + 1 = c1, ?_⟩
      unfold behind1
      rw [if_pos h2]
      exact ht6.put hd7 hs7
    · rintro s' H'' ⟨rfl, g, F', ht⟩
      try simp only [sv_cons, sv_cons1, sc_cons, sc_cons1, asB_bool, ifB_true, ifB_false, un_not, bin_lss, bin_leq, bin_gtr, bin_geq, bin_eql, bin_neq, bin_add, bin_sub, bin_mul, ok_int, ok_bool, ok_slice, ok_str, ok_ptr, ok_map, ok_func, ok_iface, ok_nil, List.all_cons, List.all_nil, Bool.and_true, Bool.true_and, seg, setSeg, List.drop_succ_cons, List.drop_zero, List.take_succ_cons, List.take_zero, List.cons_append, List.nil_append, List.append_nil, List.length_cons, List.length_nil, List.drop_nil, List.size_toArray, Nat.reduceAdd, Nat.reduceLeDiff, Nat.reduceBEq, Nat.zero_add, Nat.le_refl, decide_true, mkV, List.headD_cons, cellsV, w_fldV, w_ext, w_fldP, List.getElem?_toArray, List.getElem?_cons_zero, List.getElem?_cons_succ, beq_self_eq_true, selV]
      rw [wrap_i64 (by unfold i64; omega)]
      exact hK _ _ hlt ⟨g, F', by rw [tk, behind_snoc]; exact ht, by simp⟩
  · have : i = ss.length := by omega
    subst this
    rw [List.take_length] at ht
    try simp only [sv_cons, sv_cons1, sc_cons, sc_cons1, asB_bool, ifB_true, ifB_false, un_not, bin_lss, bin_leq, bin_gtr, bin_geq, bin_eql, bin_neq, bin_add, bin_sub, bin_mul, ok_int, ok_bool, ok_slice, ok_str, ok_ptr, ok_map, ok_func, ok_iface, ok_nil, List.all_cons, List.all_nil, Bool.and_true, Bool.true_and, seg, setSeg, List.drop_succ_cons, List.drop_zero, List.take_succ_cons, List.take_zero, List.cons_append, List.nil_append, List.append_nil, List.length_cons, List.length_nil, List.drop_nil, List.size_toArray, Nat.reduceAdd, Nat.reduceLeDiff, Nat.reduceBEq, Nat.zero_add, Nat.le_refl, decide_true, mkV, List.headD_cons, cellsV, w_fldV, w_ext, w_fldP, List.getElem?_toArray, List.getElem?_cons_zero, List.getElem?_cons_succ, beq_self_eq_true, selV, ht.dv.okcv]
    exact hQ v H' ht.sl g

/-- What sees of middling size are. -/
structure SeesOk (ss : List See) : Prop where
  len : ss.length ≤ 1000000
  r64 : ∀ s ∈ ss, i64 s.bucket

theorem c_ref12_Replay {c : Cfg} {a l : Value} {d : Dv} {ss : List See} (ha : Sl rBys H A a d) (hl : Sl rSee H B l ss) (hd : Mid d) (hs : SeesOk ss)
    (hQ : ∀ v H', Sl rBys H' (fun y => H.size ≤ y) v (if repE c d ss = 0 then behind d ss else []) → G H H' → Q (tup2 (.agg #[v]) (.int .i64 (repE c d ss))) H') :
    callV Try.prog (fnV fn_ref12_Replay) [.agg (cCfg c).toArray, .agg #[a], l] H Q := by
  apply S_ref12_Replay_of
  unfold S_ref12_Replay
  have bad : ∀ e H', repE c d ss = e → e ≠ 0 → G H H' → Q (tup2 (.agg #[.slice none 0 0]) (.int .i64 e)) H' := fun e H' he hne g => by
    have := hQ (.slice none 0 0) H' (by rw [he, if_neg hne]; exact Sl.nil _ _ _ _ _) g
    rw [he] at this; exact this
  refine newT_of fun H1 g1 _ => newT_of fun H2 g2 _ => newT_of fun H3 g3 _ => c_ref12_May (ha.g ((g1.trans g2).trans g3)) hd fun H4 g4 => ?_
  have g := ((g1.trans g2).trans g3).trans g4
  try simp only [sv_cons, sv_cons1, sc_cons, sc_cons1, asB_bool, ifB_true, ifB_false, un_not, bin_lss, bin_leq, bin_gtr, bin_geq, bin_eql, bin_neq, bin_add, bin_sub, bin_mul, ok_int, ok_bool, ok_slice, ok_str, ok_ptr, ok_map, ok_func, ok_iface, ok_nil, List.all_cons, List.all_nil, Bool.and_true, Bool.true_and, seg, setSeg, List.drop_succ_cons, List.drop_zero, List.take_succ_cons, List.take_zero, List.cons_append, List.nil_append, List.append_nil, List.length_cons, List.length_nil, List.drop_nil, List.size_toArray, Nat.reduceAdd, Nat.reduceLeDiff, Nat.reduceBEq, Nat.zero_add, Nat.le_refl, decide_true, mkV, List.headD_cons, cellsV, w_fldV, w_ext, w_fldP, List.getElem?_toArray, List.getElem?_cons_zero, List.getElem?_cons_succ, beq_self_eq_true, selV]
  cases hm : may c d with
  | false => exact bad 8 _ (by unfold repE; rw [hm]; rfl) (by omega) g
  | true =>
    have er : repE c d ss = if ss.all (seeOk d) then 0 else 2 := by unfold repE; rw [hm]; rfl
    simp only [Bool.not_true, ifB_false]
    have hsl := hs.len
    refine loop_up ss.length (fun i s H' => G H H' ∧ s = [[.slice none 0 0], [.int .i64 (i : Int)]] ∧ ∀ b ∈ ss.take i, seeOk d b = true) ⟨g, rfl, by simp⟩ ?_
    rintro i s H' K hi ⟨g, rfl, hin⟩ hK
    refine (hl.g g).len ?_
    try simp only [sv_cons, sv_cons1, sc_cons, sc_cons1, asB_bool, ifB_true, ifB_false, un_not, bin_lss, bin_leq, bin_gtr, bin_geq, bin_eql, bin_neq, bin_add, bin_sub, bin_mul, ok_int, ok_bool, ok_slice, ok_str, ok_ptr, ok_map, ok_func, ok_iface, ok_nil, List.all_cons, List.all_nil, Bool.and_true, Bool.true_and, seg, setSeg, List.drop_succ_cons, List.drop_zero, List.take_succ_cons, List.take_zero, List.cons_append, List.nil_append, List.append_nil, List.length_cons, List.length_nil, List.drop_nil, List.size_toArray, Nat.reduceAdd, Nat.reduceLeDiff, Nat.reduceBEq, Nat.zero_add, Nat.le_refl, decide_true, mkV, List.headD_cons, cellsV, w_fldV, w_ext, w_fldP, List.getElem?_toArray, List.getElem?_cons_zero, List.getElem?_cons_succ, beq_self_eq_true, selV]
    refine ifD_of (fun h1 => ?_) (fun h1 => ?_)
    · have hlt : i < ss.length := by omega
      have hx : ss[i]? = some ss[i] := List.getElem?_eq_getElem hlt
      have h64 := hs.r64 _ (List.getElem_mem hlt)
      refine (hl.g g).get rfl hx fun cs hr => ?_
      obtain ⟨u, rfl, hu⟩ := hr
      refine c_ref12_MaySee (ha.g g) hu hd (fun j x hx => by have := may_pos hm hx; omega) (wrap_i64 h64) fun H5 g5 => ?_
      have g := g.trans g5
      try simp only [sv_cons, sv_cons1, sc_cons, sc_cons1, asB_bool, ifB_true, ifB_false, un_not, bin_lss, bin_leq, bin_gtr, bin_geq, bin_eql, bin_neq, bin_add, bin_sub, bin_mul, ok_int, ok_bool, ok_slice, ok_str, ok_ptr, ok_map, ok_func, ok_iface, ok_nil, List.all_cons, List.all_nil, Bool.and_true, Bool.true_and, seg, setSeg, List.drop_succ_cons, List.drop_zero, List.take_succ_cons, List.take_zero, List.cons_append, List.nil_append, List.append_nil, List.length_cons, List.length_nil, List.drop_nil, List.size_toArray, Nat.reduceAdd, Nat.reduceLeDiff, Nat.reduceBEq, Nat.zero_add, Nat.le_refl, decide_true, mkV, List.headD_cons, cellsV, w_fldV, w_ext, w_fldP, List.getElem?_toArray, List.getElem?_cons_zero, List.getElem?_cons_succ, beq_self_eq_true, selV]
      cases hok : seeOk d ss[i] with
      | false =>
        exact bad 2 _ (by rw [er, if_neg (fun h => by have := List.all_eq_true.1 h ss[i] (List.getElem_mem hlt); rw [hok] at this; cases this)]) (by omega) g
      | true =>
        simp only [Bool.not_true, ifB_false]
        rw [wrap_i64 (by unfold i64; omega)]
        refine hK _ _ hlt ⟨g, by simp, fun b hb' => ?_⟩
        rw [List.take_succ_eq_append_getElem hlt, List.mem_append, List.mem_singleton] at hb'
        rcases hb' with h | rfl
        · exact hin b h
        · exact hok
    · have : i = ss.length := by omega
      subst this
      rw [List.take_length] at hin
      have e0 : repE c d ss = 0 := by rw [er, if_pos]; rw [List.all_eq_true]; exact hin
      refine c_ref12_Behind (ha.g g) (hl.g g) hd hsl hin (fun s hs => seeOk_len hd (hin s hs)) hs.r64 fun v H5 hv g5 => ?_
      have hsz := g.size
      have := hQ v H5 (by rw [e0, if_pos rfl]; exact hv.mono fun y hy _ => by omega) (g.trans g5)
      rw [e0] at this
      try simp only [sv_cons, sv_cons1, sc_cons, sc_cons1, asB_bool, ifB_true, ifB_false, un_not, bin_lss, bin_leq, bin_gtr, bin_geq, bin_eql, bin_neq, bin_add, bin_sub, bin_mul, ok_int, ok_bool, ok_slice, ok_str, ok_ptr, ok_map, ok_func, ok_iface, ok_nil, List.all_cons, List.all_nil, Bool.and_true, Bool.true_and, seg, setSeg, List.drop_succ_cons, List.drop_zero, List.take_succ_cons, List.take_zero, List.cons_append, List.nil_append, List.append_nil, List.length_cons, List.length_nil, List.drop_nil, List.size_toArray, Nat.reduceAdd, Nat.reduceLeDiff, Nat.reduceBEq, Nat.zero_add, Nat.le_refl, decide_true, mkV, List.headD_cons, cellsV, w_fldV, w_ext, w_fldP, List.getElem?_toArray, List.getElem?_cons_zero, List.getElem?_cons_succ, beq_self_eq_true, selV, hv.okcv]
      exact this

/-! ### Devices of noughts -/

theorem replicate_snoc {α : Type} (n : Nat) (x : α) : List.replicate n x ++ [x] = List.replicate (n + 1) x := by rw [List.replicate_succ']

theorem c_ref12_Blank {c : Cfg} (hc : c.num) (hQ : ∀ v H', Sl rBys H' (fun y => H.size ≤ y) v (blankD c) → G H H' → Q (.agg #[v]) H') : callV Try.prog (fnV fn_ref12_Blank) [.agg (cCfg c).toArray] H Q := by
  apply S_ref12_Blank_of
  unfold S_ref12_Blank
  refine newT_of fun H1 g1 _ => newT_of fun H2 g2 _ => newT_of fun H3 g3 _ => c_ref08_All hc fun l H4 hl g4 => ?_
  have g := ((g1.trans g2).trans g3).trans g4
  have hcl := c.all_len
  refine loop_up c.all.length (fun i s H' => ∃ v, Cd H4 H' v ((blankD c).take i) ∧ s = [[v], [.int .i64 (i : Int)]]) ⟨_, by simpa using Cd.nil (G.fr (Fr.refl _ H4)), rfl⟩ ?_
  rintro i s H' K hi ⟨v, hcd, rfl⟩ hK
  have hl' := hl.g hcd.g
  refine hl'.len ?_
  try simp only [sv_cons, sv_cons1, sc_cons, sc_cons1, asB_bool, ifB_true, ifB_false, un_not, bin_lss, bin_leq, bin_gtr, bin_geq, bin_eql, bin_neq, bin_add, bin_sub, bin_mul, ok_int, ok_bool, ok_slice, ok_str, ok_ptr, ok_map, ok_func, ok_iface, ok_nil, List.all_cons, List.all_nil, Bool.and_true, Bool.true_and, seg, setSeg, List.drop_succ_cons, List.drop_zero, List.take_succ_cons, List.take_zero, List.cons_append, List.nil_append, List.append_nil, List.length_cons, List.length_nil, List.drop_nil, List.size_toArray, Nat.reduceAdd, Nat.reduceLeDiff, Nat.reduceBEq, Nat.zero_add, Nat.le_refl, decide_true, mkV, List.headD_cons, cellsV, w_fldV, w_ext, w_fldP, List.getElem?_toArray, List.getElem?_cons_zero, List.getElem?_cons_succ, beq_self_eq_true, selV]
  refine ifD_of (fun h1 => ?_) (fun h1 => ?_)
  · have hlt : i < c.all.length := by omega
    have hx : c.all[i]? = some c.all[i] := List.getElem?_eq_getElem hlt
    have hok := Cfg.all_ok hc _ (List.getElem_mem hlt)
    have tk : (blankD c).take (i + 1) = (blankD c).take i ++ [List.replicate (2 * many c.all[i].high - 1).toNat (List.replicate (8 + c.all[i].width).toNat 0)] := by
      rw [List.take_add_one]; simp [blankD, hx]
    have tl : ((blankD c).take i).length = i := by simp [blankD]; omega
    generalize c.all[i] = lv at *
    obtain ⟨_, _, _, _, o1, o2, o3, o4⟩ := hok
    have hm := many_bound o1 o2
    obtain ⟨n, hn⟩ : ∃ n : Nat, 2 * many lv.high - 1 = (n : Int) := ⟨(2 * many lv.high - 1).toNat, by omega⟩
    obtain ⟨w, hw⟩ : ∃ w : Nat, 8 + lv.width = (w : Int) := ⟨(8 + lv.width).toNat, by omega⟩
    rw [hn, hw, Int.toNat_natCast, Int.toNat_natCast] at tk
    refine loop_up n (fun k s H'' => ∃ u b vs F, Cl H' H'' u b vs F (List.replicate k (List.replicate w 0)) ∧ s = [[u], [.int .i64 ((k : Int) + 1)]]) ⟨_, _, _, _, Cl.nil (G.fr (Fr.refl _ H')), rfl⟩ ?_
    rintro k s H'' K2 hk ⟨u, b, vs, F, hcl2, rfl⟩ hK2
    have hl'' := hl'.g hcl2.g
    refine hl''.at rfl hx fun p cs hp hr => ?_
    obtain ⟨rfl, _⟩ := hr
    refine hp.fld1 (by simp) fun p1 hp1 => hp1.load rfl ?_
    try simp only [sv_cons, sv_cons1, sc_cons, sc_cons1, asB_bool, ifB_true, ifB_false, un_not, bin_lss, bin_leq, bin_gtr, bin_geq, bin_eql, bin_neq, bin_add, bin_sub, bin_mul, ok_int, ok_bool, ok_slice, ok_str, ok_ptr, ok_map, ok_func, ok_iface, ok_nil, List.all_cons, List.all_nil, Bool.and_true, Bool.true_and, seg, setSeg, List.drop_succ_cons, List.drop_zero, List.take_succ_cons, List.take_zero, List.cons_append, List.nil_append, List.append_nil, List.length_cons, List.length_nil, List.drop_nil, List.size_toArray, Nat.reduceAdd, Nat.reduceLeDiff, Nat.reduceBEq, Nat.zero_add, Nat.le_refl, decide_true, mkV, List.headD_cons, cellsV, w_fldV, w_ext, w_fldP, List.getElem?_toArray, List.getElem?_cons_zero, List.getElem?_cons_succ, beq_self_eq_true, selV]
    refine c_ref07_Many ⟨by omega, by omega⟩ ?_
    try simp only [sv_cons, sv_cons1, sc_cons, sc_cons1, asB_bool, ifB_true, ifB_false, un_not, bin_lss, bin_leq, bin_gtr, bin_geq, bin_eql, bin_neq, bin_add, bin_sub, bin_mul, ok_int, ok_bool, ok_slice, ok_str, ok_ptr, ok_map, ok_func, ok_iface, ok_nil, List.all_cons, List.all_nil, Bool.and_true, Bool.true_and, seg, setSeg, List.drop_succ_cons, List.drop_zero, List.take_succ_cons, List.take_zero, List.cons_append, List.nil_append, List.append_nil, List.length_cons, List.length_nil, List.drop_nil, List.size_toArray, Nat.reduceAdd, Nat.reduceLeDiff, Nat.reduceBEq, Nat.zero_add, Nat.le_refl, decide_true, mkV, List.headD_cons, cellsV, w_fldV, w_ext, w_fldP, List.getElem?_toArray, List.getElem?_cons_zero, List.getElem?_cons_succ, beq_self_eq_true, selV]
    rw [wrap_i64 (x := 2 * many lv.high) (by unfold i64; omega)]
    refine ifD_of (fun h2 => ?_) (fun h2 => ?_)
    · refine hl''.at rfl hx fun p cs hp hr => ?_
      obtain ⟨rfl, _⟩ := hr
      refine hp.fld1 (by simp) fun p1 hp1 => hp1.load rfl ?_
      try simp only [sv_cons, sv_cons1, sc_cons, sc_cons1, asB_bool, ifB_true, ifB_false, un_not, bin_lss, bin_leq, bin_gtr, bin_geq, bin_eql, bin_neq, bin_add, bin_sub, bin_mul, ok_int, ok_bool, ok_slice, ok_str, ok_ptr, ok_map, ok_func, ok_iface, ok_nil, List.all_cons, List.all_nil, Bool.and_true, Bool.true_and, seg, setSeg, List.drop_succ_cons, List.drop_zero, List.take_succ_cons, List.take_zero, List.cons_append, List.nil_append, List.append_nil, List.length_cons, List.length_nil, List.drop_nil, List.size_toArray, Nat.reduceAdd, Nat.reduceLeDiff, Nat.reduceBEq, Nat.zero_add, Nat.le_refl, decide_true, mkV, List.headD_cons, cellsV, w_fldV, w_ext, w_fldP, List.getElem?_toArray, List.getElem?_cons_zero, List.getElem?_cons_succ, beq_self_eq_true, selV]
      rw [wrap_i64 (x := 8 + lv.width) (by unfold i64; omega), hw]
      refine mk_zero (R := rU8) (x := 0) (A := fun _ => False) ⟨rfl, trivial⟩ rfl (by omega) (by omega) (by omega) fun t H5 ht g5 s5 => ?_
      have ht := ht.mono (A' := fun _ => False) fun y hy _ => by simp at hy
      refine hcl2.push g5 ht (.inr (by omega)) rfl rfl (by simp; omega) (by simp; omega) fun u' H6 b' hc6 _ _ => ?_
      try simp only [sv_cons, sv_cons1, sc_cons, sc_cons1, asB_bool, ifB_true, ifB_false, un_not, bin_lss, bin_leq, bin_gtr, bin_geq, bin_eql, bin_neq, bin_add, bin_sub, bin_mul, ok_int, ok_bool, ok_slice, ok_str, ok_ptr, ok_map, ok_func, ok_iface, ok_nil, List.all_cons, List.all_nil, Bool.and_true, Bool.true_and, seg, setSeg, List.drop_succ_cons, List.drop_zero, List.take_succ_cons, List.take_zero, List.cons_append, List.nil_append, List.append_nil, List.length_cons, List.length_nil, List.drop_nil, List.size_toArray, Nat.reduceAdd, Nat.reduceLeDiff, Nat.reduceBEq, Nat.zero_add, Nat.le_refl, decide_true, mkV, List.headD_cons, cellsV, w_fldV, w_ext, w_fldP, List.getElem?_toArray, List.getElem?_cons_zero, List.getElem?_cons_succ, beq_self_eq_true, selV]
      rw [wrap_i64 (by unfold i64; omega)]
      rw [replicate_snoc] at hc6
      exact hK2 _ _ (by omega) ⟨u', b', _, _, hc6, by simp⟩
    · have : k = n := by omega
      subst this
      try simp only [sv_cons, sv_cons1, sc_cons, sc_cons1, asB_bool, ifB_true, ifB_false, un_not, bin_lss, bin_leq, bin_gtr, bin_geq, bin_eql, bin_neq, bin_add, bin_sub, bin_mul, ok_int, ok_bool, ok_slice, ok_str, ok_ptr, ok_map, ok_func, ok_iface, ok_nil, List.all_cons, List.all_nil, Bool.and_true, Bool.true_and, seg, setSeg, List.drop_succ_cons, List.drop_zero, List.take_succ_cons, List.take_zero, List.cons_append, List.nil_append, List.append_nil, List.length_cons, List.length_nil, List.drop_nil, List.size_toArray, Nat.reduceAdd, Nat.reduceLeDiff, Nat.reduceBEq, Nat.zero_add, Nat.le_refl, decide_true, mkV, List.headD_cons, cellsV, w_fldV, w_ext, w_fldP, List.getElem?_toArray, List.getElem?_cons_zero, List.getElem?_cons_succ, beq_self_eq_true, selV]
      refine hcd.push hcl2 rfl rfl (by rw [tl]; omega) (by rw [tl]; omega) fun v' H5 hc' => ?_
      have hok : okc v' = true := by obtain ⟨⟨b, bs, vs, vss, F, h1, _⟩, _⟩ := hc'; exact h1.outer.okcv
      try simp only [sv_cons, sv_cons1, sc_cons, sc_cons1, asB_bool, ifB_true, ifB_false, un_not, bin_lss, bin_leq, bin_gtr, bin_geq, bin_eql, bin_neq, bin_add, bin_sub, bin_mul, ok_int, ok_bool, ok_slice, ok_str, ok_ptr, ok_map, ok_func, ok_iface, ok_nil, List.all_cons, List.all_nil, Bool.and_true, Bool.true_and, seg, setSeg, List.drop_succ_cons, List.drop_zero, List.take_succ_cons, List.take_zero, List.cons_append, List.nil_append, List.append_nil, List.length_cons, List.length_nil, List.drop_nil, List.size_toArray, Nat.reduceAdd, Nat.reduceLeDiff, Nat.reduceBEq, Nat.zero_add, Nat.le_refl, decide_true, mkV, List.headD_cons, cellsV, w_fldV, w_ext, w_fldP, List.getElem?_toArray, List.getElem?_cons_zero, List.getElem?_cons_succ, beq_self_eq_true, selV, hok]
      rw [wrap_i64 (by unfold i64; omega)]
      exact hK _ _ hlt ⟨v', by rw [tk]; exact hc', by simp⟩
  · have : i = c.all.length := by omega
    subst this
    rw [List.take_of_length_le (by simp [blankD])] at hcd
    obtain ⟨O, F, hdv, hOF⟩ := (hcd.of g).out
    try simp only [sv_cons, sv_cons1, sc_cons, sc_cons1, asB_bool, ifB_true, ifB_false, un_not, bin_lss, bin_leq, bin_gtr, bin_geq, bin_eql, bin_neq, bin_add, bin_sub, bin_mul, ok_int, ok_bool, ok_slice, ok_str, ok_ptr, ok_map, ok_func, ok_iface, ok_nil, List.all_cons, List.all_nil, Bool.and_true, Bool.true_and, seg, setSeg, List.drop_succ_cons, List.drop_zero, List.take_succ_cons, List.take_zero, List.cons_append, List.nil_append, List.append_nil, List.length_cons, List.length_nil, List.drop_nil, List.size_toArray, Nat.reduceAdd, Nat.reduceLeDiff, Nat.reduceBEq, Nat.zero_add, Nat.le_refl, decide_true, mkV, List.headD_cons, cellsV, w_fldV, w_ext, w_fldP, List.getElem?_toArray, List.getElem?_cons_zero, List.getElem?_cons_succ, beq_self_eq_true, selV, hdv.okcv]
    exact hQ v H' (hdv.sl fun y hy => (hOF y hy).1) (g.trans hcd.g)

/-! ### Lists of what is seen -/

theorem c_ref12_GreatSees {l : Value} {ss : List See} (hl : Sl rSee H A l ss) (hQ : ∀ b, (b = false → ss.length ≤ 2000) → Q (.bool b) H) : callV Try.prog (fnV fn_ref12_GreatSees) [l] H Q := by
  apply S_ref12_GreatSees_of
  unfold S_ref12_GreatSees
  refine loop_up 2000 (fun i s H' => H' = H ∧ ∃ n : Int, s = [[.int .i64 n], [.int .i64 (i : Int)]] ∧ 0 ≤ n ∧ n ≤ i * 100000 ∧ ∀ j s, j < i → ss[j]? = some s → (if (100000 : Int) < s.bytes.length then 100000 else (s.bytes.length : Int)) ≤ n ∧ n ≤ (i : Int) * 100000)
    ⟨rfl, 0, rfl, by omega, by omega, fun j x h => by omega⟩ ?_
  rintro i s H' K hi ⟨rfl, n, rfl, hn0, hn1, hin⟩ hK
  refine join_of (fun s H'' => H'' = H' ∧ s = [[.bool (decide (i < ss.length ∧ i < 2000))]]) (fun K' hK' => ?_) ?_
  · refine hl.len ?_
    try simp only [sv_cons, sv_cons1, sc_cons, sc_cons1, asB_bool, ifB_true, ifB_false, un_not, bin_lss, bin_leq, bin_gtr, bin_geq, bin_eql, bin_neq, bin_add, bin_sub, bin_mul, ok_int, ok_bool, ok_slice, ok_str, ok_ptr, ok_map, ok_func, ok_iface, ok_nil, List.all_cons, List.all_nil, Bool.and_true, Bool.true_and, seg, setSeg, List.drop_succ_cons, List.drop_zero, List.take_succ_cons, List.take_zero, List.cons_append, List.nil_append, List.append_nil, List.length_cons, List.length_nil, List.drop_nil, List.size_toArray, Nat.reduceAdd, Nat.reduceLeDiff, Nat.reduceBEq, Nat.zero_add, Nat.le_refl, decide_true, mkV, List.headD_cons, cellsV, w_fldV, w_ext, w_fldP, List.getElem?_toArray, List.getElem?_cons_zero, List.getElem?_cons_succ, beq_self_eq_true, selV]
    refine ifD_of (fun h1 => hK' _ _ ⟨rfl, jb_d (by omega)⟩) (fun h1 => hK' _ _ ⟨rfl, jb_f (by omega)⟩)
  rintro s H'' ⟨rfl, rfl⟩
  try simp only [sv_cons, sv_cons1, sc_cons, sc_cons1, asB_bool, ifB_true, ifB_false, un_not, bin_lss, bin_leq, bin_gtr, bin_geq, bin_eql, bin_neq, bin_add, bin_sub, bin_mul, ok_int, ok_bool, ok_slice, ok_str, ok_ptr, ok_map, ok_func, ok_iface, ok_nil, List.all_cons, List.all_nil, Bool.and_true, Bool.true_and, seg, setSeg, List.drop_succ_cons, List.drop_zero, List.take_succ_cons, List.take_zero, List.cons_append, List.nil_append, List.append_nil, List.length_cons, List.length_nil, List.drop_nil, List.size_toArray, Nat.reduceAdd, Nat.reduceLeDiff, Nat.reduceBEq, Nat.zero_add, Nat.le_refl, decide_true, mkV, List.headD_cons, cellsV, w_fldV, w_ext, w_fldP, List.getElem?_toArray, List.getElem?_cons_zero, List.getElem?_cons_succ, beq_self_eq_true, selV]
  refine ifD_of (fun h1 => ?_) (fun h1 => ?_)
  · have hx : ss[i]? = some ss[i] := List.getElem?_eq_getElem h1.1
    generalize ss[i] = s at hx
    refine hl.at rfl hx fun p cs hp hr => ?_
    obtain ⟨u, rfl, hu⟩ := hr
    refine hp.fld1 (by simp) fun p1 hp1 => hp1.load rfl ?_
    try simp only [sv_cons, sv_cons1, sc_cons, sc_cons1, asB_bool, ifB_true, ifB_false, un_not, bin_lss, bin_leq, bin_gtr, bin_geq, bin_eql, bin_neq, bin_add, bin_sub, bin_mul, ok_int, ok_bool, ok_slice, ok_str, ok_ptr, ok_map, ok_func, ok_iface, ok_nil, List.all_cons, List.all_nil, Bool.and_true, Bool.true_and, seg, setSeg, List.drop_succ_cons, List.drop_zero, List.take_succ_cons, List.take_zero, List.cons_append, List.nil_append, List.append_nil, List.length_cons, List.length_nil, List.drop_nil, List.size_toArray, Nat.reduceAdd, Nat.reduceLeDiff, Nat.reduceBEq, Nat.zero_add, Nat.le_refl, decide_true, mkV, List.headD_cons, cellsV, w_fldV, w_ext, w_fldP, List.getElem?_toArray, List.getElem?_cons_zero, List.getElem?_cons_succ, beq_self_eq_true, selV]
    refine hu.len ?_
    rw [w_min]
    try simp only [sv_cons, sv_cons1, sc_cons, sc_cons1, asB_bool, ifB_true, ifB_false, un_not, bin_lss, bin_leq, bin_gtr, bin_geq, bin_eql, bin_neq, bin_add, bin_sub, bin_mul, ok_int, ok_bool, ok_slice, ok_str, ok_ptr, ok_map, ok_func, ok_iface, ok_nil, List.all_cons, List.all_nil, Bool.and_true, Bool.true_and, seg, setSeg, List.drop_succ_cons, List.drop_zero, List.take_succ_cons, List.take_zero, List.cons_append, List.nil_append, List.append_nil, List.length_cons, List.length_nil, List.drop_nil, List.size_toArray, Nat.reduceAdd, Nat.reduceLeDiff, Nat.reduceBEq, Nat.zero_add, Nat.le_refl, decide_true, mkV, List.headD_cons, cellsV, w_fldV, w_ext, w_fldP, List.getElem?_toArray, List.getElem?_cons_zero, List.getElem?_cons_succ, beq_self_eq_true, selV]
    have hmin : 0 ≤ (if (100000 : Int) < s.bytes.length then 100000 else (s.bytes.length : Int)) ∧ (if (100000 : Int) < s.bytes.length then 100000 else (s.bytes.length : Int)) ≤ 100000 := by split <;> omega
    generalize hq : (if (100000 : Int) < s.bytes.length then 100000 else (s.bytes.length : Int)) = q at hmin
    rw [wrap_i64 (x := n + q) (by unfold i64; omega), wrap_i64 (by unfold i64; omega)]
    refine hK _ _ (by omega) ⟨rfl, n + q, rfl, by omega, by simp; omega, fun j s' hj hs' => ⟨?_, by simp; omega⟩⟩
    rcases Nat.lt_or_ge j i with h | h
    · have := hin j s' h hs'; omega
    · have : j = i := by omega
      subst this
      rw [hx] at hs'; cases hs'
      omega
  · refine join_of (fun s H' => H' = H'' ∧ s = [[.bool (decide (ss.length > 2000 ∨ n > 200000))]]) (fun K' hK' => ?_) ?_
    · refine hl.len ?_
      try simp only [sv_cons, sv_cons1, sc_cons, sc_cons1, asB_bool, ifB_true, ifB_false, un_not, bin_lss, bin_leq, bin_gtr, bin_geq, bin_eql, bin_neq, bin_add, bin_sub, bin_mul, ok_int, ok_bool, ok_slice, ok_str, ok_ptr, ok_map, ok_func, ok_iface, ok_nil, List.all_cons, List.all_nil, Bool.and_true, Bool.true_and, seg, setSeg, List.drop_succ_cons, List.drop_zero, List.take_succ_cons, List.take_zero, List.cons_append, List.nil_append, List.append_nil, List.length_cons, List.length_nil, List.drop_nil, List.size_toArray, Nat.reduceAdd, Nat.reduceLeDiff, Nat.reduceBEq, Nat.zero_add, Nat.le_refl, decide_true, mkV, List.headD_cons, cellsV, w_fldV, w_ext, w_fldP, List.getElem?_toArray, List.getElem?_cons_zero, List.getElem?_cons_succ, beq_self_eq_true, selV]
      refine ifD_of (fun h1 => hK' _ _ ⟨rfl, jb_t (by omega)⟩) (fun h1 => hK' _ _ ⟨rfl, jb_d (by omega)⟩)
    rintro s H' ⟨rfl, rfl⟩
    refine hQ _ fun hf => ?_
    have hf := of_decide_eq_false hf
    omega

theorem c_ref12_SameSees {a b : Value} {xs ys : List See} (ha : Sl rSee H A a xs) (hb : Sl rSee H B b ys) (hl : xs.length < 9223372036854775807) (hQ : Q (.bool (decide (xs = ys))) H) : callV Try.prog (fnV fn_ref12_SameSees) [a, b] H Q := by
  apply S_ref12_SameSees_of
  unfold S_ref12_SameSees
  refine ha.len (hb.len ?_)
  try simp only [sv_cons, sv_cons1, sc_cons, sc_cons1, asB_bool, ifB_true, ifB_false, un_not, bin_lss, bin_leq, bin_gtr, bin_geq, bin_eql, bin_neq, bin_add, bin_sub, bin_mul, ok_int, ok_bool, ok_slice, ok_str, ok_ptr, ok_map, ok_func, ok_iface, ok_nil, List.all_cons, List.all_nil, Bool.and_true, Bool.true_and, seg, setSeg, List.drop_succ_cons, List.drop_zero, List.take_succ_cons, List.take_zero, List.cons_append, List.nil_append, List.append_nil, List.length_cons, List.length_nil, List.drop_nil, List.size_toArray, Nat.reduceAdd, Nat.reduceLeDiff, Nat.reduceBEq, Nat.zero_add, Nat.le_refl, decide_true, mkV, List.headD_cons, cellsV, w_fldV, w_ext, w_fldP, List.getElem?_toArray, List.getElem?_cons_zero, List.getElem?_cons_succ, beq_self_eq_true, selV]
  refine ifD_of (fun hne => ?_) (fun heq => ?_)
  · rw [decide_eq_false (fun e => hne (by rw [e]))] at hQ; exact hQ
  have heq : xs.length = ys.length := by omega
  refine loop_up xs.length (fun i s H' => s = [[.int .i64 (i : Int)]] ∧ H' = H ∧ xs.take i = ys.take i) ⟨rfl, rfl, by simp⟩ ?_
  rintro i s H' K hi ⟨rfl, rfl, ht⟩ hK
  refine ha.len ?_
  try simp only [sv_cons, sv_cons1, sc_cons, sc_cons1, asB_bool, ifB_true, ifB_false, un_not, bin_lss, bin_leq, bin_gtr, bin_geq, bin_eql, bin_neq, bin_add, bin_sub, bin_mul, ok_int, ok_bool, ok_slice, ok_str, ok_ptr, ok_map, ok_func, ok_iface, ok_nil, List.all_cons, List.all_nil, Bool.and_true, Bool.true_and, seg, setSeg, List.drop_succ_cons, List.drop_zero, List.take_succ_cons, List.take_zero, List.cons_append, List.nil_append, List.append_nil, List.length_cons, List.length_nil, List.drop_nil, List.size_toArray, Nat.reduceAdd, Nat.reduceLeDiff, Nat.reduceBEq, Nat.zero_add, Nat.le_refl, decide_true, mkV, List.headD_cons, cellsV, w_fldV, w_ext, w_fldP, List.getElem?_toArray, List.getElem?_cons_zero, List.getElem?_cons_succ, beq_self_eq_true, selV]
  refine ifD_of (fun hlt => ?_) (fun hge => ?_)
  · have hlt : i < xs.length := by omega
    have hlt' : i < ys.length := by omega
    have hx : xs[i]? = some xs[i] := List.getElem?_eq_getElem hlt
    have hy : ys[i]? = some ys[i] := List.getElem?_eq_getElem hlt'
    refine join_of (fun s H'' => H'' = H' ∧ s = [[.bool (decide (xs[i] ≠ ys[i]))]]) (fun K' hK' => ?_) ?_
    · have ne : ∀ {p : Prop} [Decidable p], (p → xs[i] ≠ ys[i]) → p → [[Value.bool true]] = [[Value.bool (decide (xs[i] ≠ ys[i]))]] := fun h hp => jb_t (h hp)
      have fx : ∀ (off : Nat) (k : Value → Prop), (∀ p u cs, AtC H' A p (seg (cSee xs[i] u) off 1) → Sl rU8 H' A u xs[i].bytes → cs = cSee xs[i] u → k p) → off < 4 → idxS 4 a (.int .i64 (i : Int)) fun q => fldP off q k := by
        intro off k hk ho
        refine ha.at rfl hx fun p cs hp hr => ?_
        obtain ⟨u, rfl, hu⟩ := hr
        exact hp.fld1 (by simp; omega) fun p1 hp1 => hk p1 u _ hp1 hu rfl
      have fy : ∀ (off : Nat) (k : Value → Prop), (∀ p u cs, AtC H' B p (seg (cSee ys[i] u) off 1) → Sl rU8 H' B u ys[i].bytes → cs = cSee ys[i] u → k p) → off < 4 → idxS 4 b (.int .i64 (i : Int)) fun q => fldP off q k := by
        intro off k hk ho
        refine hb.at rfl hy fun p cs hp hr => ?_
        obtain ⟨u, rfl, hu⟩ := hr
        exact hp.fld1 (by simp; omega) fun p1 hp1 => hk p1 u _ hp1 hu rfl
      refine fx 0 _ (fun p0 _ _ hp0 _ _ => hp0.load rfl ?_) (by omega)
      refine fy 0 _ (fun q0 _ _ hq0 _ _ => hq0.load rfl ?_) (by omega)
      try simp only [sv_cons, sv_cons1, sc_cons, sc_cons1, asB_bool, ifB_true, ifB_false, un_not, bin_lss, bin_leq, bin_gtr, bin_geq, bin_eql, bin_neq, bin_add, bin_sub, bin_mul, ok_int, ok_bool, ok_slice, ok_str, ok_ptr, ok_map, ok_func, ok_iface, ok_nil, List.all_cons, List.all_nil, Bool.and_true, Bool.true_and, seg, setSeg, List.drop_succ_cons, List.drop_zero, List.take_succ_cons, List.take_zero, List.cons_append, List.nil_append, List.append_nil, List.length_cons, List.length_nil, List.drop_nil, List.size_toArray, Nat.reduceAdd, Nat.reduceLeDiff, Nat.reduceBEq, Nat.zero_add, Nat.le_refl, decide_true, mkV, List.headD_cons, cellsV, w_fldV, w_ext, w_fldP, List.getElem?_toArray, List.getElem?_cons_zero, List.getElem?_cons_succ, beq_self_eq_true, selV]
      refine ifD_of (fun h0 => ⟨hq0.load rfl rfl, hp0.load rfl rfl, hK' _ _ ⟨rfl, jb_t fun e => h0 (by rw [e])⟩⟩) (fun h0 => ?_)
      refine fx 1 _ (fun p1 _ _ hp1 _ _ => hp1.load rfl ?_) (by omega)
      refine fy 1 _ (fun q1 _ _ hq1 _ _ => hq1.load rfl ?_) (by omega)
      try simp only [sv_cons, sv_cons1, sc_cons, sc_cons1, asB_bool, ifB_true, ifB_false, un_not, bin_lss, bin_leq, bin_gtr, bin_geq, bin_eql, bin_neq, bin_add, bin_sub, bin_mul, ok_int, ok_bool, ok_slice, ok_str, ok_ptr, ok_map, ok_func, ok_iface, ok_nil, List.all_cons, List.all_nil, Bool.and_true, Bool.true_and, seg, setSeg, List.drop_succ_cons, List.drop_zero, List.take_succ_cons, List.take_zero, List.cons_append, List.nil_append, List.append_nil, List.length_cons, List.length_nil, List.drop_nil, List.size_toArray, Nat.reduceAdd, Nat.reduceLeDiff, Nat.reduceBEq, Nat.zero_add, Nat.le_refl, decide_true, mkV, List.headD_cons, cellsV, w_fldV, w_ext, w_fldP, List.getElem?_toArray, List.getElem?_cons_zero, List.getElem?_cons_succ, beq_self_eq_true, selV]
      refine ifD_of (fun h1 => ⟨hq1.load rfl rfl, hp1.load rfl rfl, hq0.load rfl rfl, hp0.load rfl rfl, hK' _ _ ⟨rfl, jb_t fun e => h1 (by rw [e])⟩⟩) (fun h1 => ?_)
      refine fx 2 _ (fun p2 _ _ hp2 _ _ => hp2.load rfl ?_) (by omega)
      refine fy 2 _ (fun q2 _ _ hq2 _ _ => hq2.load rfl ?_) (by omega)
      try simp only [sv_cons, sv_cons1, sc_cons, sc_cons1, asB_bool, ifB_true, ifB_false, un_not, bin_lss, bin_leq, bin_gtr, bin_geq, bin_eql, bin_neq, bin_add, bin_sub, bin_mul, ok_int, ok_bool, ok_slice, ok_str, ok_ptr, ok_map, ok_func, ok_iface, ok_nil, List.all_cons, List.all_nil, Bool.and_true, Bool.true_and, seg, setSeg, List.drop_succ_cons, List.drop_zero, List.take_succ_cons, List.take_zero, List.cons_append, List.nil_append, List.append_nil, List.length_cons, List.length_nil, List.drop_nil, List.size_toArray, Nat.reduceAdd, Nat.reduceLeDiff, Nat.reduceBEq, Nat.zero_add, Nat.le_refl, decide_true, mkV, List.headD_cons, cellsV, w_fldV, w_ext, w_fldP, List.getElem?_toArray, List.getElem?_cons_zero, List.getElem?_cons_succ, beq_self_eq_true, selV]
      refine ifD_of (fun h2 => ⟨hq2.load rfl rfl, hp2.load rfl rfl, hq1.load rfl rfl, hp1.load rfl rfl, hq0.load rfl rfl, hp0.load rfl rfl, hK' _ _ ⟨rfl, jb_t fun e => h2 (by rw [e])⟩⟩) (fun h2 => ?_)
      refine fx 3 _ (fun p3 u3 _ hp3 hu3 _ => hp3.load rfl ?_) (by omega)
      refine fy 3 _ (fun q3 w3 _ hq3 hw3 _ => hq3.load rfl ?_) (by omega)
      try simp only [sv_cons, sv_cons1, sc_cons, sc_cons1, asB_bool, ifB_true, ifB_false, un_not, bin_lss, bin_leq, bin_gtr, bin_geq, bin_eql, bin_neq, bin_add, bin_sub, bin_mul, ok_int, ok_bool, ok_slice, ok_str, ok_ptr, ok_map, ok_func, ok_iface, ok_nil, List.all_cons, List.all_nil, Bool.and_true, Bool.true_and, seg, setSeg, List.drop_succ_cons, List.drop_zero, List.take_succ_cons, List.take_zero, List.cons_append, List.nil_append, List.append_nil, List.length_cons, List.length_nil, List.drop_nil, List.size_toArray, Nat.reduceAdd, Nat.reduceLeDiff, Nat.reduceBEq, Nat.zero_add, Nat.le_refl, decide_true, mkV, List.headD_cons, cellsV, w_fldV, w_ext, w_fldP, List.getElem?_toArray, List.getElem?_cons_zero, List.getElem?_cons_succ, beq_self_eq_true, selV]
      refine c_ref01_Same hu3 hw3 ⟨hq2.load rfl rfl, hp2.load rfl rfl, hq1.load rfl rfl, hp1.load rfl rfl, hq0.load rfl rfl, hp0.load rfl rfl, ?_⟩
      try simp only [sv_cons, sv_cons1, sc_cons, sc_cons1, asB_bool, ifB_true, ifB_false, un_not, bin_lss, bin_leq, bin_gtr, bin_geq, bin_eql, bin_neq, bin_add, bin_sub, bin_mul, ok_int, ok_bool, ok_slice, ok_str, ok_ptr, ok_map, ok_func, ok_iface, ok_nil, List.all_cons, List.all_nil, Bool.and_true, Bool.true_and, seg, setSeg, List.drop_succ_cons, List.drop_zero, List.take_succ_cons, List.take_zero, List.cons_append, List.nil_append, List.append_nil, List.length_cons, List.length_nil, List.drop_nil, List.size_toArray, Nat.reduceAdd, Nat.reduceLeDiff, Nat.reduceBEq, Nat.zero_add, Nat.le_refl, decide_true, mkV, List.headD_cons, cellsV, w_fldV, w_ext, w_fldP, List.getElem?_toArray, List.getElem?_cons_zero, List.getElem?_cons_succ, beq_self_eq_true, selV]
      refine hK' _ _ ⟨rfl, ?_⟩
      have h0 : xs[i].kind = ys[i].kind := Decidable.not_not.1 h0
      have h1 : xs[i].level = ys[i].level := Decidable.not_not.1 h1
      have h2 : xs[i].bucket = ys[i].bucket := Decidable.not_not.1 h2
      have : xs[i].bytes = ys[i].bytes ↔ xs[i] = ys[i] := by
        refine ⟨fun h => ?_, fun h => by rw [h]⟩
        generalize xs[i] = x at *
        generalize ys[i] = y at *
        cases x; cases y; simp_all
      rw [← decide_not, decide_eq_decide.2 (not_congr this)]
    rintro s H'' ⟨rfl, rfl⟩
    try simp only [sv_cons, sv_cons1, sc_cons, sc_cons1, asB_bool, ifB_true, ifB_false, un_not, bin_lss, bin_leq, bin_gtr, bin_geq, bin_eql, bin_neq, bin_add, bin_sub, bin_mul, ok_int, ok_bool, ok_slice, ok_str, ok_ptr, ok_map, ok_func, ok_iface, ok_nil, List.all_cons, List.all_nil, Bool.and_true, Bool.true_and, seg, setSeg, List.drop_succ_cons, List.drop_zero, List.take_succ_cons, List.take_zero, List.cons_append, List.nil_append, List.append_nil, List.length_cons, List.length_nil, List.drop_nil, List.size_toArray, Nat.reduceAdd, Nat.reduceLeDiff, Nat.reduceBEq, Nat.zero_add, Nat.le_refl, decide_true, mkV, List.headD_cons, cellsV, w_fldV, w_ext, w_fldP, List.getElem?_toArray, List.getElem?_cons_zero, List.getElem?_cons_succ, beq_self_eq_true, selV]
    refine ifD_of (fun hne => ?_) (fun he => ?_)
    · rw [decide_eq_false (fun e => hne (by subst e; rfl))] at hQ; exact hQ
    · rw [wrap_succ (by omega)]
      exact hK _ _ hlt ⟨rfl, rfl, take_eq_step hlt hlt' ht (Decidable.not_not.1 he)⟩
  · have : i = xs.length := by omega
    subst this
    rw [List.take_length, heq, List.take_length] at ht
    rw [decide_eq_true ht] at hQ; exact hQ

theorem c_ref12_TwinSees {l : Value} {ss : List See} (hl : Sl rSee H A l ss) (hs : ss.length ≤ 1000000) (hb : ∀ s ∈ ss, s.bytes.length ≤ 140737488355328) (hQ : ∀ v H', Sl rSee H' (fun y => H.size ≤ y) v ss → G H H' → Q v H') :
    callV Try.prog (fnV fn_ref12_TwinSees) [l] H Q := by
  apply S_ref12_TwinSees_of
  unfold S_ref12_TwinSees
  refine loop_up ss.length (fun i s H' => G H H' ∧ ∃ v b, Ow rSee H' b (fun y => H.size ≤ y ∧ y + 1 ≠ b) v (ss.take i) ∧ (b = 0 ∨ H.size < b) ∧ s = [[v], [.int .i64 (i : Int)]])
    ⟨G.fr (Fr.refl _ _), _, 0, by simpa using Ow.nil rSee H _, .inl rfl, rfl⟩ ?_
  rintro i s H' K hi ⟨g, v, b, ho, hfb, rfl⟩ hK
  refine (hl.g g).len ?_
  try simp only [sv_cons, sv_cons1, sc_cons, sc_cons1, asB_bool, ifB_true, ifB_false, un_not, bin_lss, bin_leq, bin_gtr, bin_geq, bin_eql, bin_neq, bin_add, bin_sub, bin_mul, ok_int, ok_bool, ok_slice, ok_str, ok_ptr, ok_map, ok_func, ok_iface, ok_nil, List.all_cons, List.all_nil, Bool.and_true, Bool.true_and, seg, setSeg, List.drop_succ_cons, List.drop_zero, List.take_succ_cons, List.take_zero, List.cons_append, List.nil_append, List.append_nil, List.length_cons, List.length_nil, List.drop_nil, List.size_toArray, Nat.reduceAdd, Nat.reduceLeDiff, Nat.reduceBEq, Nat.zero_add, Nat.le_refl, decide_true, mkV, List.headD_cons, cellsV, w_fldV, w_ext, w_fldP, List.getElem?_toArray, List.getElem?_cons_zero, List.getElem?_cons_succ, beq_self_eq_true, selV]
  refine ifD_of (fun h1 => ?_) (fun h1 => ?_)
  · have hlt : i < ss.length := by omega
    have hx : ss[i]? = some ss[i] := List.getElem?_eq_getElem hlt
    have hsb := hb _ (List.getElem_mem hlt)
    have tk : ss.take (i + 1) = ss.take i ++ [ss[i]] := List.take_succ_eq_append_getElem hlt
    have tl : (ss.take i).length = i := by simp; omega
    have hs0 := g.size
    have hbl := ho.lt
    generalize ss[i] = s at *
    refine (hl.g g).get rfl hx fun cs hr => ?_
    obtain ⟨u, rfl, hu⟩ := hr
    refine newT_of fun H1 g1 s1 => ?_
    try simp only [sv_cons, sv_cons1, sc_cons, sc_cons1, asB_bool, ifB_true, ifB_false, un_not, bin_lss, bin_leq, bin_gtr, bin_geq, bin_eql, bin_neq, bin_add, bin_sub, bin_mul, ok_int, ok_bool, ok_slice, ok_str, ok_ptr, ok_map, ok_func, ok_iface, ok_nil, List.all_cons, List.all_nil, Bool.and_true, Bool.true_and, seg, setSeg, List.drop_succ_cons, List.drop_zero, List.take_succ_cons, List.take_zero, List.cons_append, List.nil_append, List.append_nil, List.length_cons, List.length_nil, List.drop_nil, List.size_toArray, Nat.reduceAdd, Nat.reduceLeDiff, Nat.reduceBEq, Nat.zero_add, Nat.le_refl, decide_true, mkV, List.headD_cons, cellsV, w_fldV, w_ext, w_fldP, List.getElem?_toArray, List.getElem?_cons_zero, List.getElem?_cons_succ, beq_self_eq_true, selV, hu.okcv]
    refine bld_nil rU8 fun t H2 ht g2 s2 => clone_appL ht (hu.g (g1.trans g2)) rfl hsb fun w H3 c hw hf hc => ?_
    have g3 : G H' H3 := (g1.trans g2).then hf fun y hy => show y + 1 ≠ H1.size + 1 by omega
    have hwl := hw.lt
    try simp only [sv_cons, sv_cons1, sc_cons, sc_cons1, asB_bool, ifB_true, ifB_false, un_not, bin_lss, bin_leq, bin_gtr, bin_geq, bin_eql, bin_neq, bin_add, bin_sub, bin_mul, ok_int, ok_bool, ok_slice, ok_str, ok_ptr, ok_map, ok_func, ok_iface, ok_nil, List.all_cons, List.all_nil, Bool.and_true, Bool.true_and, seg, setSeg, List.drop_succ_cons, List.drop_zero, List.take_succ_cons, List.take_zero, List.cons_append, List.nil_append, List.append_nil, List.length_cons, List.length_nil, List.drop_nil, List.size_toArray, Nat.reduceAdd, Nat.reduceLeDiff, Nat.reduceBEq, Nat.zero_add, Nat.le_refl, decide_true, mkV, List.headD_cons, cellsV, w_fldV, w_ext, w_fldP, List.getElem?_toArray, List.getElem?_cons_zero, List.getElem?_cons_succ, beq_self_eq_true, selV, hw.okcv]
    refine (ho.g g3).push (R := rSee) (x := s) (A' := fun y => y + 1 = c) (vrep_see (H' := H3) (hw.slF fun k hk => hk.symm)) rfl (by omega) (fun h => by cases h) rfl rfl (fun y hy _ => hy.elim (fun h => h.2) fun h => by omega) (by rw [tl]; omega) (by rw [tl]; omega)
      fun u' H4 b' ho4 hf4 hb4 _ => ?_
    try simp only [sv_cons, sv_cons1, sc_cons, sc_cons1, asB_bool, ifB_true, ifB_false, un_not, bin_lss, bin_leq, bin_gtr, bin_geq, bin_eql, bin_neq, bin_add, bin_sub, bin_mul, ok_int, ok_bool, ok_slice, ok_str, ok_ptr, ok_map, ok_func, ok_iface, ok_nil, List.all_cons, List.all_nil, Bool.and_true, Bool.true_and, seg, setSeg, List.drop_succ_cons, List.drop_zero, List.take_succ_cons, List.take_zero, List.cons_append, List.nil_append, List.append_nil, List.length_cons, List.length_nil, List.drop_nil, List.size_toArray, Nat.reduceAdd, Nat.reduceLeDiff, Nat.reduceBEq, Nat.zero_add, Nat.le_refl, decide_true, mkV, List.headD_cons, cellsV, w_fldV, w_ext, w_fldP, List.getElem?_toArray, List.getElem?_cons_zero, List.getElem?_cons_succ, beq_self_eq_true, selV]
    rw [wrap_i64 (by unfold i64; omega)]
    have hs3 := g3.size
    refine hK _ _ hlt ⟨(g.trans g3).then hf4 fun y hy => show y + 1 ≠ b by omega, u', b', ?_, by omega, by simp⟩
    rw [tk]
    refine ho4.mono fun y hy _ => ?_
    rcases hy with ⟨hy | hy, hlt⟩
    · exact ⟨hy.1, by rcases hb4 with e | e; rw [e]; exact hy.2; omega⟩
    · exact ⟨by omega, by rcases hb4 with e | e; rw [e]; omega; omega⟩
  · have : i = ss.length := by omega
    subst this
    rw [List.take_length] at ho
    exact hQ v H' (ho.sl (fun y hy _ => hy.1) fun k hk => by omega) g

end Go.Proofs.Ytelfpkegpffajaa
