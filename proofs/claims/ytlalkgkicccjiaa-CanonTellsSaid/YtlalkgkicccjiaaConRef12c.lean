/- Contracts: what was seen, replayed, as the reference has it; devices of noughts; lists of what is seen. -/
import Derived.Test.YtlalkgkicccjiaaConRef12b
namespace Go.Proofs.Ytlalkgkicccjiaa
open Go.Ab Go.Md
set_option linter.unusedVariables false
set_option linter.unusedSimpArgs false
set_option maxRecDepth 20000

variable {H : Heap} {Q : Value → Heap → Prop} {A B C : Nat → Prop}

abbrev cSee (s : See) (u : Value) : List Value := [.int .u8 s.kind, .int .i64 s.level, .int .i64 s.bucket, u]

theorem behind_snoc {d : Dv} {l : List See} {s : See} : behind d (l ++ [s]) = behind1 (behind d l) s := by simp [behind]

/-- What may be seen of a device may be seen of what it becomes. -/
theorem behind_len {d : Dv} : ∀ {l : List See}, (behind d l).length = d.length ∧ ∀ level : Int, (0 ≤ level ∧ level < d.length) → (lvlOf (behind d l) level).length = (lvlOf d level).length := by
  suffices h : ∀ (l : List See) (d' : Dv), d'.length = d.length → (∀ level : Int, (0 ≤ level ∧ level < d.length) → (lvlOf d' level).length = (lvlOf d level).length) →
      (l.foldl behind1 d').length = d.length ∧ ∀ level : Int, (0 ≤ level ∧ level < d.length) → (lvlOf (l.foldl behind1 d') level).length = (lvlOf d level).length from fun {l} => h l d rfl fun _ _ => rfl
  intro l
  induction l with
  | nil => exact fun d' h1 h2 => ⟨h1, h2⟩
  | cons s l ih =>
    intro d' h1 h2
    refine ih (behind1 d' s) ?_ fun level hl => ?_
    · unfold behind1; split
      · rw [len_put]; exact h1
      · exact h1
    · unfold behind1; split
      · rw [← h2 level hl]
        by_cases hs : s.level.toNat = level.toNat
        · have hsl : lvlOf (putB d' s.level s.bucket s.bytes) level = (lvlOf d' s.level).set (s.bucket - 1).toNat s.bytes := by
            unfold putB
            conv => lhs; unfold lvlOf
            rw [List.getD_eq_getElem?_getD, List.getElem?_set, if_pos hs, if_pos (by omega)]; rfl
          rw [hsl]
          unfold lvlOf
          rw [hs]; simp
        · unfold putB
          conv => lhs; unfold lvlOf
          rw [List.getD_eq_getElem?_getD, List.getElem?_set_ne hs]
          unfold lvlOf
          rw [List.getD_eq_getElem?_getD]
      · exact h2 level hl

theorem seeOk_iff {d : Dv} {s : See} : seeOk d s = true ↔ (s.kind = 1 ∨ s.kind = 2) ∧ ((0 ≤ s.level ∧ s.level < d.length) ∧ (1 ≤ s.bucket ∧ s.bucket ≤ (lvlOf d s.level).length)) ∧ (s.bytes.length : Int) = bkSize d s.level := by
  unfold seeOk
  simp only [Bool.and_eq_true, Bool.or_eq_true, beq_iff_eq]
  rw [levE_zero]
  simp [and_assoc]

theorem seeOk_len {d : Dv} {s : See} (hd : Mid d) (h : seeOk d s = true) : s.bytes.length ≤ 1000000 := by
  have h1 := (seeOk_iff.1 h).2.2
  have h2 := mid_bk hd (level := s.level) (b := 1)
  unfold bkSize at h1
  omega

/-- A device of the function's own, of fresh blocks. -/
structure Dn (m : Nat) (H : Heap) (O F : Nat → Prop) (v : Value) (d : Dv) : Prop where
  dv : DvO H O F v d
  inO : ∀ y, O y ∨ F y → m ≤ y ∧ y < H.size

theorem Dn.g {m : Nat} {H' : Heap} {O F : Nat → Prop} {v : Value} {d : Dv} (h : Dn m H O F v d) (hf : G H H') : Dn m H' O F v d := ⟨h.dv.g hf, fun y hy => by have := h.inO y hy; have := hf.size; omega⟩
theorem Dn.leaf {m bu : Nat} {H' : Heap} {O F : Nat → Prop} {v u : Value} {d : Dv} {x : By} (h : Dn m H O F v d) (hm : m ≤ H.size) (hf : G H H') (hu : Ow rU8 H' bu (fun _ => False) u x) (hb : H.size < bu) :
    Dn m H' O (fun y => F y ∨ y + 1 = bu) v d ∧ Lf H' (fun y => F y ∨ y + 1 = bu) u x := by
  have hl := hu.lt
  have hs := hf.size
  refine ⟨⟨(h.dv.g hf).wider (fun y hy => .inl hy) fun y hO => fun hF => hF.elim (h.dv.dis y hO) fun e => by have := h.inO y (.inl hO); omega, fun y hy => ?_⟩, (Ow.lf hu).fr fun y hy _ => ⟨.inr hy, rfl⟩⟩
  rcases hy with hy | hy | hy
  · have := h.inO y (.inl hy); omega
  · have := h.inO y (.inr hy); omega
  · omega
theorem Dn.put {m : Nat} {H' : Heap} {O F : Nat → Prop} {v : Value} {d d' : Dv} (h : Dn m H O F v d) (hd : DvO H' O F v d') (hs : H'.size = H.size) : Dn m H' O F v d' := ⟨hd, fun y hy => by have := h.inO y hy; omega⟩
theorem Dn.of {m : Nat} {H' : Heap} {O F : Nat → Prop} {v : Value} {d : Dv} (h : DvO H' O F v d) (hO : ∀ y, O y ∨ F y → m ≤ y ∧ y < H'.size) : Dn m H' O F v d := ⟨h, hO⟩
theorem Dn.sl {m : Nat} {O F : Nat → Prop} {v : Value} {d : Dv} (h : Dn m H O F v d) : Sl rBys H (fun y => m ≤ y) v d := h.dv.sl fun y hy => (h.inO y hy).1

/-- What sees of middling size are. -/
structure SeesOk (ss : List See) : Prop where
  len : ss.length ≤ 1000000
  r64 : ∀ s ∈ ss, i64 s.bucket

/-! ### Devices of noughts -/

theorem replicate_snoc {α : Type} (n : Nat) (x : α) : List.replicate n x ++ [x] = List.replicate (n + 1) x := by rw [List.replicate_succ']

theorem c_ref12_BlankO {c : Cfg} (hc : c.num) (hQ : ∀ v H' O F, Dn H.size H' O F v (blankD c) → G H H' → Q (.agg #[v]) H') : callV Try.prog (fnV fn_ref12_Blank) [.agg (cCfg c).toArray] H Q := by
  apply S_ref12_Blank_of
  unfold S_ref12_Blank
  refine newT_of fun H1 g1 _ => newT_of fun H2 g2 _ => newT_of fun H3 g3 _ => c_ref08_All hc fun l H4 hl g4 => ?_
  have g := ((g1.trans g2).trans g3).trans g4
  have hcl := c.all_len
  refine loop_up c.all.length (fun i s H' => ∃ v, Cd H4 H' v ((blankD c).take i) ∧ s = [[v], [.int .i64 (i : Int)]]) ⟨_, by simpa using Cd.nil (G.fr (Fr.refl _ H4)), rfl⟩ ?_
  rintro i s H' K hi ⟨v, hcd, rfl⟩ hK
  have hl' := hl.g hcd.g
  refine hl'.len ?_
  try simp only [sv_cons, sv_cons1, sc_cons, sc_cons1, asB_bool, ifB_true, ifB_false, un_not, bin_lss, bin_leq, bin_gtr, bin_geq, bin_eql, bin_neq, bin_add, bin_sub, bin_mul, ok_int, ok_bool, ok_slice, ok_str, ok_ptr, ok_map, ok_func, ok_iface, ok_nil, List.all_cons, List.all_nil, Bool.and_true, Bool.true_and, seg, setSeg, List.drop_succ_cons, List.drop_zero, List.take_succ_cons, List.take_zero, List.cons_append, List.nil_append, List.append_nil, List.length_cons, List.length_nil, List.drop_nil, List.size_toArray, Nat.reduceAdd, Nat.reduceLeDiff, Nat.reduceBEq, Nat.zero_add, Nat.le_refl, decide_true, mkV, List.headD_cons, cellsV, w_fldV, w_ext, w_fldP, List.getElem?_toArray, List.getElem?_cons_zero, List.getElem?_cons_succ, beq_self_eq_true, selV]
  refine ifD_of (fun h1 => ?_) (fun h1 => ?_)
  · have hlt : i < c.all.length := by omega
    have hx : c.all[i]? = some c.all[i] := List.getElem?_eq_getElem hlt
    have hok := Cfg.all_ok hc _ (List.getElem_mem hlt)
    have tk : (blankD c).take (i + 1) = (blankD c).take i ++ [List.replicate (2 * many c.all[i].high - 1).toNat (List.replicate (8 + c.all[i].width).toNat 0)] := by
      rw [List.take_add_one]; simp [blankD, hx]
    have tl : ((blankD c).take i).length = i := by simp [blankD]; omega
    generalize c.all[i] = lv at *
    obtain ⟨_, _, _, _, o1, o2, o3, o4⟩ := hok
    have hm := many_bound o1 o2
    obtain ⟨n, hn⟩ : ∃ n : Nat, 2 * many lv.high - 1 = (n : Int) := ⟨(2 * many lv.high - 1).toNat, by omega⟩
    obtain ⟨w, hw⟩ : ∃ w : Nat, 8 + lv.width = (w : Int) := ⟨(8 + lv.width).toNat, by omega⟩
    rw [hn, hw, Int.toNat_natCast, Int.toNat_natCast] at tk
    refine loop_up n (fun k s H'' => ∃ u b vs F, Cl H' H'' u b vs F (List.replicate k (List.replicate w 0)) ∧ s = [[u], [.int .i64 ((k : Int) + 1)]]) ⟨_, _, _, _, Cl.nil (G.fr (Fr.refl _ H')), rfl⟩ ?_
    rintro k s H'' K2 hk ⟨u, b, vs, F, hcl2, rfl⟩ hK2
    have hl'' := hl'.g hcl2.g
    refine hl''.at rfl hx fun p cs hp hr => ?_
    obtain ⟨rfl, _⟩ := hr
    refine hp.fld1 (by simp) fun p1 hp1 => hp1.load rfl ?_
    try simp only [sv_cons, sv_cons1, sc_cons, sc_cons1, asB_bool, ifB_true, ifB_false, un_not, bin_lss, bin_leq, bin_gtr, bin_geq, bin_eql, bin_neq, bin_add, bin_sub, bin_mul, ok_int, ok_bool, ok_slice, ok_str, ok_ptr, ok_map, ok_func, ok_iface, ok_nil, List.all_cons, List.all_nil, Bool.and_true, Bool.true_and, seg, setSeg, List.drop_succ_cons, List.drop_zero, List.take_succ_cons, List.take_zero, List.cons_append, List.nil_append, List.append_nil, List.length_cons, List.length_nil, List.drop_nil, List.size_toArray, Nat.reduceAdd, Nat.reduceLeDiff, Nat.reduceBEq, Nat.zero_add, Nat.le_refl, decide_true, mkV, List.headD_cons, cellsV, w_fldV, w_ext, w_fldP, List.getElem?_toArray, List.getElem?_cons_zero, List.getElem?_cons_succ, beq_self_eq_true, selV]
    refine c_ref07_Many ⟨by omega, by omega⟩ ?_
    try simp only [sv_cons, sv_cons1, sc_cons, sc_cons1, asB_bool, ifB_true, ifB_false, un_not, bin_lss, bin_leq, bin_gtr, bin_geq, bin_eql, bin_neq, bin_add, bin_sub, bin_mul, ok_int, ok_bool, ok_slice, ok_str, ok_ptr, ok_map, ok_func, ok_iface, ok_nil, List.all_cons, List.all_nil, Bool.and_true, Bool.true_and, seg, setSeg, List.drop_succ_cons, List.drop_zero, List.take_succ_cons, List.take_zero, List.cons_append, List.nil_append, List.append_nil, List.length_cons, List.length_nil, List.drop_nil, List.size_toArray, Nat.reduceAdd, Nat.reduceLeDiff, Nat.reduceBEq, Nat.zero_add, Nat.le_refl, decide_true, mkV, List.headD_cons, cellsV, w_fldV, w_ext, w_fldP, List.getElem?_toArray, List.getElem?_cons_zero, List.getElem?_cons_succ, beq_self_eq_true, selV]
    rw [wrap_i64 (x := 2 * many lv.high) (by unfold i64; omega)]
    refine ifD_of (fun h2 => ?_) (fun h2 => ?_)
    · refine hl''.at rfl hx fun p cs hp hr => ?_
      obtain ⟨rfl, _⟩ := hr
      refine hp.fld1 (by simp) fun p1 hp1 => hp1.load rfl ?_
      try simp only [sv_cons, sv_cons1, sc_cons, sc_cons1, asB_bool, ifB_true, ifB_false, un_not, bin_lss, bin_leq, bin_gtr, bin_geq, bin_eql, bin_neq, bin_add, bin_sub, bin_mul, ok_int, ok_bool, ok_slice, ok_str, ok_ptr, ok_map, ok_func, ok_iface, ok_nil, List.all_cons, List.all_nil, Bool.and_true, Bool.true_and, seg, setSeg, List.drop_succ_cons, List.drop_zero, List.take_succ_cons, List.take_zero, List.cons_append, List.nil_append, List.append_nil, List.length_cons, List.length_nil, List.drop_nil, List.size_toArray, Nat.reduceAdd, Nat.reduceLeDiff, Nat.reduceBEq, Nat.zero_add, Nat.le_refl, decide_true, mkV, List.headD_cons, cellsV, w_fldV, w_ext, w_fldP, List.getElem?_toArray, List.getElem?_cons_zero, List.getElem?_cons_succ, beq_self_eq_true, selV]
      rw [wrap_i64 (x := 8 + lv.width) (by unfold i64; omega), hw]
      refine mk_zero (R := rU8) (x := 0) (A := fun _ => False) ⟨rfl, trivial⟩ rfl (by omega) (by omega) (by omega) fun t H5 ht g5 s5 => ?_
      have ht := ht.mono (A' := fun _ => False) fun y hy _ => by simp at hy
      refine hcl2.push g5 ht (.inr (by omega)) rfl rfl (by simp; omega) (by simp; omega) fun u' H6 b' hc6 _ _ => ?_
      try simp only [sv_cons, sv_cons1, sc_cons, sc_cons1, asB_bool, ifB_true, ifB_false, un_not, bin_lss, bin_leq, bin_gtr, bin_geq, bin_eql, bin_neq, bin_add, bin_sub, bin_mul, ok_int, ok_bool, ok_slice, ok_str, ok_ptr, ok_map, ok_func, ok_iface, ok_nil, List.all_cons, List.all_nil, Bool.and_true, Bool.true_and, seg, setSeg, List.drop_succ_cons, List.drop_zero, List.take_succ_cons, List.take_zero, List.cons_append, List.nil_append, List.append_nil, List.length_cons, List.length_nil, List.drop_nil, List.size_toArray, Nat.reduceAdd, Nat.reduceLeDiff, Nat.reduceBEq, Nat.zero_add, Nat.le_refl, decide_true, mkV, List.headD_cons, cellsV, w_fldV, w_ext, w_fldP, List.getElem?_toArray, List.getElem?_cons_zero, List.getElem?_cons_succ, beq_self_eq_true, selV]
      rw [wrap_i64 (by unfold i64; omega)]
      rw [replicate_snoc] at hc6
      exact hK2 _ _ (by omega) ⟨u', b', _, _, hc6, by simp⟩
    · have : k = n := by omega
      subst this
      try simp only [sv_cons, sv_cons1, sc_cons, sc_cons1, asB_bool, ifB_true, ifB_false, un_not, bin_lss, bin_leq, bin_gtr, bin_geq, bin_eql, bin_neq, bin_add, bin_sub, bin_mul, ok_int, ok_bool, ok_slice, ok_str, ok_ptr, ok_map, ok_func, ok_iface, ok_nil, List.all_cons, List.all_nil, Bool.and_true, Bool.true_and, seg, setSeg, List.drop_succ_cons, List.drop_zero, List.take_succ_cons, List.take_zero, List.cons_append, List.nil_append, List.append_nil, List.length_cons, List.length_nil, List.drop_nil, List.size_toArray, Nat.reduceAdd, Nat.reduceLeDiff, Nat.reduceBEq, Nat.zero_add, Nat.le_refl, decide_true, mkV, List.headD_cons, cellsV, w_fldV, w_ext, w_fldP, List.getElem?_toArray, List.getElem?_cons_zero, List.getElem?_cons_succ, beq_self_eq_true, selV]
      refine hcd.push hcl2 rfl rfl (by rw [tl]; omega) (by rw [tl]; omega) fun v' H5 hc' => ?_
      have hok : okc v' = true := by obtain ⟨⟨b, bs, vs, vss, F, h1, _⟩, _⟩ := hc'; exact h1.outer.okcv
      try simp only [sv_cons, sv_cons1, sc_cons, sc_cons1, asB_bool, ifB_true, ifB_false, un_not, bin_lss, bin_leq, bin_gtr, bin_geq, bin_eql, bin_neq, bin_add, bin_sub, bin_mul, ok_int, ok_bool, ok_slice, ok_str, ok_ptr, ok_map, ok_func, ok_iface, ok_nil, List.all_cons, List.all_nil, Bool.and_true, Bool.true_and, seg, setSeg, List.drop_succ_cons, List.drop_zero, List.take_succ_cons, List.take_zero, List.cons_append, List.nil_append, List.append_nil, List.length_cons, List.length_nil, List.drop_nil, List.size_toArray, Nat.reduceAdd, Nat.reduceLeDiff, Nat.reduceBEq, Nat.zero_add, Nat.le_refl, decide_true, mkV, List.headD_cons, cellsV, w_fldV, w_ext, w_fldP, List.getElem?_toArray, List.getElem?_cons_zero, List.getElem?_cons_succ, beq_self_eq_true, selV, hok]
      rw [wrap_i64 (by unfold i64; omega)]
      exact hK _ _ hlt ⟨v', by rw [tk]; exact hc', by simp⟩
  · have : i = c.all.length := by omega
    subst this
    rw [List.take_of_length_le (by simp [blankD])] at hcd
    obtain ⟨O, F, hdv, hOF⟩ := (hcd.of g).out
    try simp only [sv_cons, sv_cons1, sc_cons, sc_cons1, asB_bool, ifB_true, ifB_false, un_not, bin_lss, bin_leq, bin_gtr, bin_geq, bin_eql, bin_neq, bin_add, bin_sub, bin_mul, ok_int, ok_bool, ok_slice, ok_str, ok_ptr, ok_map, ok_func, ok_iface, ok_nil, List.all_cons, List.all_nil, Bool.and_true, Bool.true_and, seg, setSeg, List.drop_succ_cons, List.drop_zero, List.take_succ_cons, List.take_zero, List.cons_append, List.nil_append, List.append_nil, List.length_cons, List.length_nil, List.drop_nil, List.size_toArray, Nat.reduceAdd, Nat.reduceLeDiff, Nat.reduceBEq, Nat.zero_add, Nat.le_refl, decide_true, mkV, List.headD_cons, cellsV, w_fldV, w_ext, w_fldP, List.getElem?_toArray, List.getElem?_cons_zero, List.getElem?_cons_succ, beq_self_eq_true, selV, hdv.okcv]
    exact hQ v H' O F (Dn.of hdv hOF) (g.trans hcd.g)
theorem c_ref12_Blank {c : Cfg} (hc : c.num) (hQ : ∀ v H', Sl rBys H' (fun y => H.size ≤ y) v (blankD c) → G H H' → Q (.agg #[v]) H') : callV Try.prog (fnV fn_ref12_Blank) [.agg (cCfg c).toArray] H Q :=
  c_ref12_BlankO hc fun v H' O F h g => hQ v H' h.sl g

/-! ### Lists of what is seen -/

theorem c_ref12_GreatSees {l : Value} {ss : List See} (hl : Sl rSee H A l ss) (hQ : ∀ b, (b = false → ss.length ≤ 2000) → Q (.bool b) H) : callV Try.prog (fnV fn_ref12_GreatSees) [l] H Q := by
  apply S_ref12_GreatSees_of
  unfold S_ref12_GreatSees
  refine loop_up 2000 (fun i s H' => H' = H ∧ ∃ n : Int, s = [[.int .i64 n], [.int .i64 (i : Int)]] ∧ 0 ≤ n ∧ n ≤ i * 100000 ∧ ∀ j s, j < i → ss[j]? = some s → (if (100000 : Int) < s.bytes.length then 100000 else (s.bytes.length : Int)) ≤ n ∧ n ≤ (i : Int) * 100000)
    ⟨rfl, 0, rfl, by omega, by omega, fun j x h => by omega⟩ ?_
  rintro i s H' K hi ⟨rfl, n, rfl, hn0, hn1, hin⟩ hK
  refine join_of (fun s H'' => H'' = H' ∧ s = [[.bool (decide (i < ss.length ∧ i < 2000))]]) (fun K' hK' => ?_) ?_
  · refine hl.len ?_
    try simp only [sv_cons, sv_cons1, sc_cons, sc_cons1, asB_bool, ifB_true, ifB_false, un_not, bin_lss, bin_leq, bin_gtr, bin_geq, bin_eql, bin_neq, bin_add, bin_sub, bin_mul, ok_int, ok_bool, ok_slice, ok_str, ok_ptr, ok_map, ok_func, ok_iface, ok_nil, List.all_cons, List.all_nil, Bool.and_true, Bool.true_and, seg, setSeg, List.drop_succ_cons, List.drop_zero, List.take_succ_cons, List.take_zero, List.cons_append, List.nil_append, List.append_nil, List.length_cons, List.length_nil, List.drop_nil, List.size_toArray, Nat.reduceAdd, Nat.reduceLeDiff, Nat.reduceBEq, Nat.zero_add, Nat.le_refl, decide_true, mkV, List.headD_cons, cellsV, w_fldV, w_ext, w_fldP, List.getElem?_toArray, List.getElem?_cons_zero, List.getElem?_cons_succ, beq_self_eq_true, selV]
    refine ifD_of (fun h1 => hK' _ _ ⟨rfl, jb_d (by omega)⟩) (fun h1 => hK' _ _ ⟨rfl, jb_f (by omega)⟩)
  rintro s H'' ⟨rfl, rfl⟩
  try simp only [sv_cons, sv_cons1, sc_cons, sc_cons1, asB_bool, ifB_true, ifB_false, un_not, bin_lss, bin_leq, bin_gtr, bin_geq, bin_eql, bin_neq, bin_add, bin_sub, bin_mul, ok_int, ok_bool, ok_slice, ok_str, ok_ptr, ok_map, ok_func, ok_iface, ok_nil, List.all_cons, List.all_nil, Bool.and_true, Bool.true_and, seg, setSeg, List.drop_succ_cons, List.drop_zero, List.take_succ_cons, List.take_zero, List.cons_append, List.nil_append, List.append_nil, List.length_cons, List.length_nil, List.drop_nil, List.size_toArray, Nat.reduceAdd, Nat.reduceLeDiff, Nat.reduceBEq, Nat.zero_add, Nat.le_refl, decide_true, mkV, List.headD_cons, cellsV, w_fldV, w_ext, w_fldP, List.getElem?_toArray, List.getElem?_cons_zero, List.getElem?_cons_succ, beq_self_eq_true, selV]
  refine ifD_of (fun h1 => ?_) (fun h1 => ?_)
  · have hx : ss[i]? = some ss[i] := List.getElem?_eq_getElem h1.1
    generalize ss[i] = s at hx
    refine hl.at rfl hx fun p cs hp hr => ?_
    obtain ⟨u, rfl, hu⟩ := hr
    refine hp.fld1 (by simp) fun p1 hp1 => hp1.load rfl ?_
    try simp only [sv_cons, sv_cons1, sc_cons, sc_cons1, asB_bool, ifB_true, ifB_false, un_not, bin_lss, bin_leq, bin_gtr, bin_geq, bin_eql, bin_neq, bin_add, bin_sub, bin_mul, ok_int, ok_bool, ok_slice, ok_str, ok_ptr, ok_map, ok_func, ok_iface, ok_nil, List.all_cons, List.all_nil, Bool.and_true, Bool.true_and, seg, setSeg, List.drop_succ_cons, List.drop_zero, List.take_succ_cons, List.take_zero, List.cons_append, List.nil_append, List.append_nil, List.length_cons, List.length_nil, List.drop_nil, List.size_toArray, Nat.reduceAdd, Nat.reduceLeDiff, Nat.reduceBEq, Nat.zero_add, Nat.le_refl, decide_true, mkV, List.headD_cons, cellsV, w_fldV, w_ext, w_fldP, List.getElem?_toArray, List.getElem?_cons_zero, List.getElem?_cons_succ, beq_self_eq_true, selV]
    refine hu.len ?_
    rw [w_min]
    try simp only [sv_cons, sv_cons1, sc_cons, sc_cons1, asB_bool, ifB_true, ifB_false, un_not, bin_lss, bin_leq, bin_gtr, bin_geq, bin_eql, bin_neq, bin_add, bin_sub, bin_mul, ok_int, ok_bool, ok_slice, ok_str, ok_ptr, ok_map, ok_func, ok_iface, ok_nil, List.all_cons, List.all_nil, Bool.and_true, Bool.true_and, seg, setSeg, List.drop_succ_cons, List.drop_zero, List.take_succ_cons, List.take_zero, List.cons_append, List.nil_append, List.append_nil, List.length_cons, List.length_nil, List.drop_nil, List.size_toArray, Nat.reduceAdd, Nat.reduceLeDiff, Nat.reduceBEq, Nat.zero_add, Nat.le_refl, decide_true, mkV, List.headD_cons, cellsV, w_fldV, w_ext, w_fldP, List.getElem?_toArray, List.getElem?_cons_zero, List.getElem?_cons_succ, beq_self_eq_true, selV]
    have hmin : 0 ≤ (if (100000 : Int) < s.bytes.length then 100000 else (s.bytes.length : Int)) ∧ (if (100000 : Int) < s.bytes.length then 100000 else (s.bytes.length : Int)) ≤ 100000 := by split <;> omega
    generalize hq : (if (100000 : Int) < s.bytes.length then 100000 else (s.bytes.length : Int)) = q at hmin
    rw [wrap_i64 (x := n + q) (by unfold i64; omega), wrap_i64 (by unfold i64; omega)]
    refine hK _ _ (by omega) ⟨rfl, n + q, rfl, by omega, by simp; omega, fun j s' hj hs' => ⟨?_, by simp; omega⟩⟩
    rcases Nat.lt_or_ge j i with h | h
    · have := hin j s' h hs'; omega
    · have : j = i := by omega
      subst this
      rw [hx] at hs'; cases hs'
      omega
  · refine join_of (fun s H' => H' = H'' ∧ s = [[.bool (decide (ss.length > 2000 ∨ n > 200000))]]) (fun K' hK' => ?_) ?_
    · refine hl.len ?_
      try simp only [sv_cons, sv_cons1, sc_cons, sc_cons1, asB_bool, ifB_true, ifB_false, un_not, bin_lss, bin_leq, bin_gtr, bin_geq, bin_eql, bin_neq, bin_add, bin_sub, bin_mul, ok_int, ok_bool, ok_slice, ok_str, ok_ptr, ok_map, ok_func, ok_iface, ok_nil, List.all_cons, List.all_nil, Bool.and_true, Bool.true_and, seg, setSeg, List.drop_succ_cons, List.drop_zero, List.take_succ_cons, List.take_zero, List.cons_append, List.nil_append, List.append_nil, List.length_cons, List.length_nil, List.drop_nil, List.size_toArray, Nat.reduceAdd, Nat.reduceLeDiff, Nat.reduceBEq, Nat.zero_add, Nat.le_refl, decide_true, mkV, List.headD_cons, cellsV, w_fldV, w_ext, w_fldP, List.getElem?_toArray, List.getElem?_cons_zero, List.getElem?_cons_succ, beq_self_eq_true, selV]
      refine ifD_of (fun h1 => hK' _ _ ⟨rfl, jb_t (by omega)⟩) (fun h1 => hK' _ _ ⟨rfl, jb_d (by omega)⟩)
    rintro s H' ⟨rfl, rfl⟩
    refine hQ _ fun hf => ?_
    have hf := of_decide_eq_false hf
    omega

theorem c_ref12_SameSees {a b : Value} {xs ys : List See} (ha : Sl rSee H A a xs) (hb : Sl rSee H B b ys) (hl : xs.length < 9223372036854775807) (hQ : Q (.bool (decide (xs = ys))) H) : callV Try.prog (fnV fn_ref12_SameSees) [a, b] H Q := by
  apply S_ref12_SameSees_of
  unfold S_ref12_SameSees
  refine ha.len (hb.len ?_)
  try simp only [sv_cons, sv_cons1, sc_cons, sc_cons1, asB_bool, ifB_true, ifB_false, un_not, bin_lss, bin_leq, bin_gtr, bin_geq, bin_eql, bin_neq, bin_add, bin_sub, bin_mul, ok_int, ok_bool, ok_slice, ok_str, ok_ptr, ok_map, ok_func, ok_iface, ok_nil, List.all_cons, List.all_nil, Bool.and_true, Bool.true_and, seg, setSeg, List.drop_succ_cons, List.drop_zero, List.take_succ_cons, List.take_zero, List.cons_append, List.nil_append, List.append_nil, List.length_cons, List.length_nil, List.drop_nil, List.size_toArray, Nat.reduceAdd, Nat.reduceLeDiff, Nat.reduceBEq, Nat.zero_add, Nat.le_refl, decide_true, mkV, List.headD_cons, cellsV, w_fldV, w_ext, w_fldP, List.getElem?_toArray, List.getElem?_cons_zero, List.getElem?_cons_succ, beq_self_eq_true, selV]
  refine ifD_of (fun hne => ?_) (fun heq => ?_)
  · rw [decide_eq_false (fun e => hne (by rw [e]))] at hQ; exact hQ
  have heq : xs.length = ys.length := by omega
  refine loop_up xs.length (fun i s H' => s = [[.int .i64 (i : Int)]] ∧ H' = H ∧ xs.take i = ys.take i) ⟨rfl, rfl, by simp⟩ ?_
  rintro i s H' K hi ⟨rfl, rfl, ht⟩ hK
  refine ha.len ?_
  try simp only [sv_cons, sv_cons1, sc_cons, sc_cons1, asB_bool, ifB_true, ifB_false, un_not, bin_lss, bin_leq, bin_gtr, bin_geq, bin_eql, bin_neq, bin_add, bin_sub, bin_mul, ok_int, ok_bool, ok_slice, ok_str, ok_ptr, ok_map, ok_func, ok_iface, ok_nil, List.all_cons, List.all_nil, Bool.and_true, Bool.true_and, seg, setSeg, List.drop_succ_cons, List.drop_zero, List.take_succ_cons, List.take_zero, List.cons_append, List.nil_append, List.append_nil, List.length_cons, List.length_nil, List.drop_nil, List.size_toArray, Nat.reduceAdd, Nat.reduceLeDiff, Nat.reduceBEq, Nat.zero_add, Nat.le_refl, decide_true, mkV, List.headD_cons, cellsV, w_fldV, w_ext, w_fldP, List.getElem?_toArray, List.getElem?_cons_zero, List.getElem?_cons_succ, beq_self_eq_true, selV]
  refine ifD_of (fun hlt => ?_) (fun hge => ?_)
  · have hlt : i < xs.length := by omega
    have hlt' : i < ys.length := by omega
    have hx : xs[i]? = some xs[i] := List.getElem?_eq_getElem hlt
    have hy : ys[i]? = some ys[i] := List.getElem?_eq_getElem hlt'
    refine join_of (fun s H'' => H'' = H' ∧ s = [[.bool (decide (xs[i] ≠ ys[i]))]]) (fun K' hK' => ?_) ?_
    · have ne : ∀ {p : Prop} [Decidable p], (p → xs[i] ≠ ys[i]) → p → [[Value.bool true]] = [[Value.bool (decide (xs[i] ≠ ys[i]))]] := fun h hp => jb_t (h hp)
      have fx : ∀ (off : Nat) (k : Value → Prop), (∀ p u cs, AtC H' A p (seg (cSee xs[i] u) off 1) → Sl rU8 H' A u xs[i].bytes → cs = cSee xs[i] u → k p) → off < 4 → idxS 4 a (.int .i64 (i : Int)) fun q => fldP off q k := by
        intro off k hk ho
        refine ha.at rfl hx fun p cs hp hr => ?_
        obtain ⟨u, rfl, hu⟩ := hr
        exact hp.fld1 (by simp; omega) fun p1 hp1 => hk p1 u _ hp1 hu rfl
      have fy : ∀ (off : Nat) (k : Value → Prop), (∀ p u cs, AtC H' B p (seg (cSee ys[i] u) off 1) → Sl rU8 H' B u ys[i].bytes → cs = cSee ys[i] u → k p) → off < 4 → idxS 4 b (.int .i64 (i : Int)) fun q => fldP off q k := by
        intro off k hk ho
        refine hb.at rfl hy fun p cs hp hr => ?_
        obtain ⟨u, rfl, hu⟩ := hr
        exact hp.fld1 (by simp; omega) fun p1 hp1 => hk p1 u _ hp1 hu rfl
      refine fx 0 _ (fun p0 _ _ hp0 _ _ => hp0.load rfl ?_) (by omega)
      refine fy 0 _ (fun q0 _ _ hq0 _ _ => hq0.load rfl ?_) (by omega)
      try simp only [sv_cons, sv_cons1, sc_cons, sc_cons1, asB_bool, ifB_true, ifB_false, un_not, bin_lss, bin_leq, bin_gtr, bin_geq, bin_eql, bin_neq, bin_add, bin_sub, bin_mul, ok_int, ok_bool, ok_slice, ok_str, ok_ptr, ok_map, ok_func, ok_iface, ok_nil, List.all_cons, List.all_nil, Bool.and_true, Bool.true_and, seg, setSeg, List.drop_succ_cons, List.drop_zero, List.take_succ_cons, List.take_zero, List.cons_append, List.nil_append, List.append_nil, List.length_cons, List.length_nil, List.drop_nil, List.size_toArray, Nat.reduceAdd, Nat.reduceLeDiff, Nat.reduceBEq, Nat.zero_add, Nat.le_refl, decide_true, mkV, List.headD_cons, cellsV, w_fldV, w_ext, w_fldP, List.getElem?_toArray, List.getElem?_cons_zero, List.getElem?_cons_succ, beq_self_eq_true, selV]
      refine ifD_of (fun h0 => ⟨hq0.load rfl rfl, hp0.load rfl rfl, hK' _ _ ⟨rfl, jb_t fun e => h0 (by rw [e])⟩⟩) (fun h0 => ?_)
      refine fx 1 _ (fun p1 _ _ hp1 _ _ => hp1.load rfl ?_) (by omega)
      refine fy 1 _ (fun q1 _ _ hq1 _ _ => hq1.load rfl ?_) (by omega)
      try simp only [sv_cons, sv_cons1, sc_cons, sc_cons1, asB_bool, ifB_true, ifB_false, un_not, bin_lss, bin_leq, bin_gtr, bin_geq, bin_eql, bin_neq, bin_add, bin_sub, bin_mul, ok_int, ok_bool, ok_slice, ok_str, ok_ptr, ok_map, ok_func, ok_iface, ok_nil, List.all_cons, List.all_nil, Bool.and_true, Bool.true_and, seg, setSeg, List.drop_succ_cons, List.drop_zero, List.take_succ_cons, List.take_zero, List.cons_append, List.nil_append, List.append_nil, List.length_cons, List.length_nil, List.drop_nil, List.size_toArray, Nat.reduceAdd, Nat.reduceLeDiff, Nat.reduceBEq, Nat.zero_add, Nat.le_refl, decide_true, mkV, List.headD_cons, cellsV, w_fldV, w_ext, w_fldP, List.getElem?_toArray, List.getElem?_cons_zero, List.getElem?_cons_succ, beq_self_eq_true, selV]
      refine ifD_of (fun h1 => ⟨hq1.load rfl rfl, hp1.load rfl rfl, hq0.load rfl rfl, hp0.load rfl rfl, hK' _ _ ⟨rfl, jb_t fun e => h1 (by rw [e])⟩⟩) (fun h1 => ?_)
      refine fx 2 _ (fun p2 _ _ hp2 _ _ => hp2.load rfl ?_) (by omega)
      refine fy 2 _ (fun q2 _ _ hq2 _ _ => hq2.load rfl ?_) (by omega)
      try simp only [sv_cons, sv_cons1, sc_cons, sc_cons1, asB_bool, ifB_true, ifB_false, un_not, bin_lss, bin_leq, bin_gtr, bin_geq, bin_eql, bin_neq, bin_add, bin_sub, bin_mul, ok_int, ok_bool, ok_slice, ok_str, ok_ptr, ok_map, ok_func, ok_iface, ok_nil, List.all_cons, List.all_nil, Bool.and_true, Bool.true_and, seg, setSeg, List.drop_succ_cons, List.drop_zero, List.take_succ_cons, List.take_zero, List.cons_append, List.nil_append, List.append_nil, List.length_cons, List.length_nil, List.drop_nil, List.size_toArray, Nat.reduceAdd, Nat.reduceLeDiff, Nat.reduceBEq, Nat.zero_add, Nat.le_refl, decide_true, mkV, List.headD_cons, cellsV, w_fldV, w_ext, w_fldP, List.getElem?_toArray, List.getElem?_cons_zero, List.getElem?_cons_succ, beq_self_eq_true, selV]
      refine ifD_of (fun h2 => ⟨hq2.load rfl rfl, hp2.load rfl rfl, hq1.load rfl rfl, hp1.load rfl rfl, hq0.load rfl rfl, hp0.load rfl rfl, hK' _ _ ⟨rfl, jb_t fun e => h2 (by rw [e])⟩⟩) (fun h2 => ?_)
      refine fx 3 _ (fun p3 u3 _ hp3 hu3 _ => hp3.load rfl ?_) (by omega)
      refine fy 3 _ (fun q3 w3 _ hq3 hw3 _ => hq3.load rfl ?_) (by omega)
      try simp only [sv_cons, sv_cons1, sc_cons, sc_cons1, asB_bool, ifB_true, ifB_false, un_not, bin_lss, bin_leq, bin_gtr, bin_geq, bin_eql, bin_neq, bin_add, bin_sub, bin_mul, ok_int, ok_bool, ok_slice, ok_str, ok_ptr, ok_map, ok_func, ok_iface, ok_nil, List.all_cons, List.all_nil, Bool.and_true, Bool.true_and, seg, setSeg, List.drop_succ_cons, List.drop_zero, List.take_succ_cons, List.take_zero, List.cons_append, List.nil_append, List.append_nil, List.length_cons, List.length_nil, List.drop_nil, List.size_toArray, Nat.reduceAdd, Nat.reduceLeDiff, Nat.reduceBEq, Nat.zero_add, Nat.le_refl, decide_true, mkV, List.headD_cons, cellsV, w_fldV, w_ext, w_fldP, List.getElem?_toArray, List.getElem?_cons_zero, List.getElem?_cons_succ, beq_self_eq_true, selV]
      refine c_ref01_Same hu3 hw3 ⟨hq2.load rfl rfl, hp2.load rfl rfl, hq1.load rfl rfl, hp1.load rfl rfl, hq0.load rfl rfl, hp0.load rfl rfl, ?_⟩
      try simp only [sv_cons, sv_cons1, sc_cons, sc_cons1, asB_bool, ifB_true, ifB_false, un_not, bin_lss, bin_leq, bin_gtr, bin_geq, bin_eql, bin_neq, bin_add, bin_sub, bin_mul, ok_int, ok_bool, ok_slice, ok_str, ok_ptr, ok_map, ok_func, ok_iface, ok_nil, List.all_cons, List.all_nil, Bool.and_true, Bool.true_and, seg, setSeg, List.drop_succ_cons, List.drop_zero, List.take_succ_cons, List.take_zero, List.cons_append, List.nil_append, List.append_nil, List.length_cons, List.length_nil, List.drop_nil, List.size_toArray, Nat.reduceAdd, Nat.reduceLeDiff, Nat.reduceBEq, Nat.zero_add, Nat.le_refl, decide_true, mkV, List.headD_cons, cellsV, w_fldV, w_ext, w_fldP, List.getElem?_toArray, List.getElem?_cons_zero, List.getElem?_cons_succ, beq_self_eq_true, selV]
      refine hK' _ _ ⟨rfl, ?_⟩
      have h0 : xs[i].kind = ys[i].kind := Decidable.not_not.1 h0
      have h1 : xs[i].level = ys[i].level := Decidable.not_not.1 h1
      have h2 : xs[i].bucket = ys[i].bucket := Decidable.not_not.1 h2
      have : xs[i].bytes = ys[i].bytes ↔ xs[i] = ys[i] := by
        refine ⟨fun h => ?_, fun h => by rw [h]⟩
        generalize xs[i] = x at *
        generalize ys[i] = y at *
        cases x; cases y; simp_all
      rw [← decide_not, decide_eq_decide.2 (not_congr this)]
    rintro s H'' ⟨rfl, rfl⟩
    try simp only [sv_cons, sv_cons1, sc_cons, sc_cons1, asB_bool, ifB_true, ifB_false, un_not, bin_lss, bin_leq, bin_gtr, bin_geq, bin_eql, bin_neq, bin_add, bin_sub, bin_mul, ok_int, ok_bool, ok_slice, ok_str, ok_ptr, ok_map, ok_func, ok_iface, ok_nil, List.all_cons, List.all_nil, Bool.and_true, Bool.true_and, seg, setSeg, List.drop_succ_cons, List.drop_zero, List.take_succ_cons, List.take_zero, List.cons_append, List.nil_append, List.append_nil, List.length_cons, List.length_nil, List.drop_nil, List.size_toArray, Nat.reduceAdd, Nat.reduceLeDiff, Nat.reduceBEq, Nat.zero_add, Nat.le_refl, decide_true, mkV, List.headD_cons, cellsV, w_fldV, w_ext, w_fldP, List.getElem?_toArray, List.getElem?_cons_zero, List.getElem?_cons_succ, beq_self_eq_true, selV]
    refine ifD_of (fun hne => ?_) (fun he => ?_)
    · rw [decide_eq_false (fun e => hne (by subst e; rfl))] at hQ; exact hQ
    · rw [wrap_succ (by omega)]
      exact hK _ _ hlt ⟨rfl, rfl, take_eq_step hlt hlt' ht (Decidable.not_not.1 he)⟩
  · have : i = xs.length := by omega
    subst this
    rw [List.take_length, heq, List.take_length] at ht
    rw [decide_eq_true ht] at hQ; exact hQ

end Go.Proofs.Ytlalkgkicccjiaa
