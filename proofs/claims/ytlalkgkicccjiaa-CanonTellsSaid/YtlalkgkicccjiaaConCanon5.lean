/- Contracts: canonical traces, written. -/
import Derived.Test.YtlalkgkicccjiaaConCanon3
import Derived.Test.YtlalkgkicccjiaaMdCanon
import Derived.Test.YtlalkgkicccjiaaShLaw22
namespace Go.Proofs.Ytlalkgkicccjiaa
open Go.Ab Go.Md
set_option linter.unusedVariables false
set_option linter.unusedSimpArgs false
set_option maxRecDepth 20000

variable {H : Heap} {Q : Value → Heap → Prop} {A B C : Nat → Prop}

theorem c_canon_asked {c : Cfg} {w a : Value} {cells : List (List Int)} {all : List By} {ticks : Int} (hc : Sl (rSl (rI .u32)) H B w cells) (ha : Sl rBy H C a all) (ht : i64 ticks) (hcl : cells.length ≤ 1000000) (hal : all.length ≤ 1000000)
    (hQ : ∀ u H', Sl rLvl H' (fun y => H.size ≤ y) u (if trE c cells all ticks = 0 then c.all else []) → G H H' → Q (tup2 u (.int .i64 (trE c cells all ticks))) H') :
    callV Try.prog (fnV fn_canon_asked) [.agg (cCfg c).toArray, w, a, .int .i64 ticks] H Q := by
  apply S_canon_asked_of
  unfold S_canon_asked
  refine newT_of fun H1 g1 s1 => c_canon_Count ht fun H2 g2 => ?_
  have g := g1.trans g2
  try simp only [sv_cons, sv_cons1, sc_cons, sc_cons1, asB_bool, ifB_true, ifB_false, un_not, bin_lss, bin_leq, bin_gtr, bin_geq, bin_eql, bin_neq, bin_add, bin_sub, bin_mul, ok_int, ok_bool, ok_slice, ok_str, ok_ptr, ok_map, ok_func, ok_iface, ok_nil, List.all_cons, List.all_nil, Bool.and_true, Bool.true_and, seg, setSeg, List.drop_succ_cons, List.drop_zero, List.take_succ_cons, List.take_zero, List.cons_append, List.nil_append, List.append_nil, List.length_cons, List.length_nil, List.drop_nil, List.size_toArray, Nat.reduceAdd, Nat.reduceLeDiff, Nat.reduceBEq, Nat.zero_add, Nat.le_refl, decide_true, mkV, List.headD_cons, cellsV, w_fldV, w_ext, w_fldP, List.getElem?_toArray, List.getElem?_cons_zero, List.getElem?_cons_succ, beq_self_eq_true, selV]
  refine ifD_of (fun c1 => ?_) (fun c1 => ?_)
  · have e : trE c cells all ticks = cntE c ticks := by unfold trE; rw [if_neg c1]
    have := hQ (.slice none 0 0) H2 (by rw [e, if_neg c1]; exact Sl.nil _ _ _ _ _) g
    rw [e] at this
    exact this
  have e0 : cntE c ticks = 0 := by omega
  have hm : c.may := by
    unfold cntE at e0
    split at e0
    · assumption
    · cases e0
  have htr : 0 ≤ ticks ∧ ticks ≤ 512 := by
    unfold cntE at e0
    rw [if_pos hm] at e0
    split at e0
    · cases e0
    · omega
  have hlv : c.levels = c.all := by unfold Cfg.levels; rw [if_pos hm]
  have ev : cntV c ticks = firstI c.all + tickI c.all * (ticks.toNat : Int) := by
    unfold cntV; rw [if_pos e0, Int.toNat_of_nonneg htr.1]
  have er : trE c cells all ticks = if fitV c.all cells all ticks.toNat then 0 else 2 := by unfold trE; rw [if_pos e0]
  refine c_conf_Levels fun u H3 hu g3 => ?_
  rw [hlv] at hu
  have g3' := g.trans g3
  try simp only [sv_cons, sv_cons1, sc_cons, sc_cons1, asB_bool, ifB_true, ifB_false, un_not, bin_lss, bin_leq, bin_gtr, bin_geq, bin_eql, bin_neq, bin_add, bin_sub, bin_mul, ok_int, ok_bool, ok_slice, ok_str, ok_ptr, ok_map, ok_func, ok_iface, ok_nil, List.all_cons, List.all_nil, Bool.and_true, Bool.true_and, seg, setSeg, List.drop_succ_cons, List.drop_zero, List.take_succ_cons, List.take_zero, List.cons_append, List.nil_append, List.append_nil, List.length_cons, List.length_nil, List.drop_nil, List.size_toArray, Nat.reduceAdd, Nat.reduceLeDiff, Nat.reduceBEq, Nat.zero_add, Nat.le_refl, decide_true, mkV, List.headD_cons, cellsV, w_fldV, w_ext, w_fldP, List.getElem?_toArray, List.getElem?_cons_zero, List.getElem?_cons_succ, beq_self_eq_true, selV]
  rw [show (.int .i64 ticks : Value) = .int .i64 ((ticks.toNat : Nat) : Int) by rw [Int.toNat_of_nonneg htr.1]]
  refine c_canon_fit hu (hc.g g3') (ha.g g3') hm.2 ev (by omega) hcl hal fun H4 g4 => ?_
  have g4' := g3'.trans g4
  have hgs := g.size
  by_cases hf : fitV c.all cells all ticks.toNat
  · rw [decide_eq_true hf]
    rw [if_pos hf] at er
    rw [er] at hQ
    try simp only [sv_cons, sv_cons1, sc_cons, sc_cons1, asB_bool, ifB_true, ifB_false, un_not, bin_lss, bin_leq, bin_gtr, bin_geq, bin_eql, bin_neq, bin_add, bin_sub, bin_mul, ok_int, ok_bool, ok_slice, ok_str, ok_ptr, ok_map, ok_func, ok_iface, ok_nil, List.all_cons, List.all_nil, Bool.and_true, Bool.true_and, seg, setSeg, List.drop_succ_cons, List.drop_zero, List.take_succ_cons, List.take_zero, List.cons_append, List.nil_append, List.append_nil, List.length_cons, List.length_nil, List.drop_nil, List.size_toArray, Nat.reduceAdd, Nat.reduceLeDiff, Nat.reduceBEq, Nat.zero_add, Nat.le_refl, decide_true, mkV, List.headD_cons, cellsV, w_fldV, w_ext, w_fldP, List.getElem?_toArray, List.getElem?_cons_zero, List.getElem?_cons_succ, beq_self_eq_true, selV, Bool.not_true]
    exact hQ u H4 (by rw [if_pos rfl]; exact (hu.g g4).mono fun y hy _ => by omega) g4'
  · rw [decide_eq_false hf]
    rw [if_neg hf] at er
    rw [er] at hQ
    try simp only [sv_cons, sv_cons1, sc_cons, sc_cons1, asB_bool, ifB_true, ifB_false, un_not, bin_lss, bin_leq, bin_gtr, bin_geq, bin_eql, bin_neq, bin_add, bin_sub, bin_mul, ok_int, ok_bool, ok_slice, ok_str, ok_ptr, ok_map, ok_func, ok_iface, ok_nil, List.all_cons, List.all_nil, Bool.and_true, Bool.true_and, seg, setSeg, List.drop_succ_cons, List.drop_zero, List.take_succ_cons, List.take_zero, List.cons_append, List.nil_append, List.append_nil, List.length_cons, List.length_nil, List.drop_nil, List.size_toArray, Nat.reduceAdd, Nat.reduceLeDiff, Nat.reduceBEq, Nat.zero_add, Nat.le_refl, decide_true, mkV, List.headD_cons, cellsV, w_fldV, w_ext, w_fldP, List.getElem?_toArray, List.getElem?_cons_zero, List.getElem?_cons_succ, beq_self_eq_true, selV, Bool.not_false]
    exact hQ (.slice none 0 0) H4 (by rw [if_neg (by omega)]; exact Sl.nil _ _ _ _ _) g4'

/-! ### The writer -/

theorem callV_bound {P : Program} {f : FuncId} {args fs : List Value} (h : callV P (fnV f) (fs ++ args) H Q) : callV P (.func (.func f) fs.toArray #[]) args H Q := by
  unfold callV fnV at h; unfold callV; simpa using h

/-- A cell of a box is written, by a value of one cell. -/
theorem Bx.storeG {b o : Nat} {cs : List Value} {x : Value} {k : Heap → Prop} (h : Bx H b cs) (ho : o < cs.length) (hx : okc x = true) (hk : ∀ H', Bx H' b (cs.set o x) → Fr (fun y => y ≠ b) H H' → H'.size = H.size → k H') :
    storeP true 1 (.pointer (some ⟨b, o, none⟩)) (.agg #[x]) H k := by
  have := Bx.storeF (k := k) h ho hx hk
  unfold storeP cellsV at this ⊢
  simp only [hx, ifB_true] at this
  simpa [hx, ifB] using this

abbrev wCells (c : Cfg) (dv rv sv : Value) : List Value := [.int .i64 c.pages, .int .i64 c.size, .int .i64 c.fan, .int .i64 c.slots, .int .i64 c.stash, .int .i64 c.frames, .int .i64 c.clients, .int .i64 c.queue, .int .i64 c.top, dv, rv, sv]

/-- The writer: its device, what is left of the texts, and what was seen. -/
structure Wst (c : Cfg) (m a b : Nat) (dv rv sv : Value) (H : Heap) (s : Dv × List By × List See) : Prop where
  bx : Bx H a (wCells c dv rv sv)
  hd : Sl rBys H (fun y => m ≤ y ∧ y ≠ a ∧ y + 1 ≠ b) dv s.1
  hr : Sl rBy H (fun y => y < m) rv s.2.1
  hs : Ow rSee H b (fun y => m ≤ y ∧ y ≠ a ∧ y + 1 ≠ b) sv s.2.2
  fb : b = 0 ∨ a + 1 < b
  ma : m ≤ a

theorem Wst.g {c : Cfg} {m a b : Nat} {dv rv sv : Value} {H' : Heap} {s : Dv × List By × List See} (h : Wst c m a b dv rv sv H s) (g : G H H') : Wst c m a b dv rv sv H' s :=
  ⟨h.bx.g g, h.hd.g g, h.hr.g g, h.hs.g g, h.fb, h.ma⟩

theorem c_writer_turn {c : Cfg} {m a b : Nat} {dv rv sv u x2 x3 : Value} {s : Dv × List By × List See} {t : Turn} (h : Wst c m a b dv rv sv H s) (hu : Sl (rI .i64) H B u t.at') (hmay : may c s.1 = true) (ht : TOk c.all t)
    (hlr : s.2.1.length ≤ 1000000) (hlb : ∀ x ∈ s.2.1, x.length ≤ 1000000) (hls : s.2.2.length ≤ 100000000)
    (htx : t.kind ≠ 1 → wrE c s.1 t.level t.at' (s.2.1.take t.at'.length) = 0 ∧ (s.2.1.take t.at'.length).length = t.at'.length)
    (hQ : ∀ b' dv' rv' sv' H', Wst c m a b' dv' rv' sv' H' (turnS s t) → Fr (fun y => y ≠ a ∧ y + 1 ≠ b) H H' → (b' = b ∨ H.size < b') → Q (.tuple #[]) H') :
    callV Try.prog (fnV fn_canon_writer_turn) [.pointer (some ⟨a, 0, none⟩), .agg #[.int .u8 t.kind, .int .i64 (t.level : Int), x2, x3], u] H Q := by
  apply S_canon_writer_turn_of
  unfold S_canon_writer_turn
  have hu := hu.old
  have hmid := may_mid hmay
  have hask := turn_ask hmay ht
  have hsm := ht.small
  have hbl := h.hs.lt
  have hal := h.bx.lt
  have hma := h.ma
  have hfb := h.fb
  refine newT_of fun H1 g1 s1 => ?_
  have h1 := h.g g1
  have hu1 := hu.g g1
  try simp only [sv_cons, sv_cons1, sc_cons, sc_cons1, asB_bool, ifB_true, ifB_false, un_not, bin_lss, bin_leq, bin_gtr, bin_geq, bin_eql, bin_neq, bin_add, bin_sub, bin_mul, ok_int, ok_bool, ok_slice, ok_str, ok_ptr, ok_map, ok_func, ok_iface, ok_nil, List.all_cons, List.all_nil, Bool.and_true, Bool.true_and, seg, setSeg, List.drop_succ_cons, List.drop_zero, List.take_succ_cons, List.take_zero, List.cons_append, List.nil_append, List.append_nil, List.length_cons, List.length_nil, List.drop_nil, List.size_toArray, Nat.reduceAdd, Nat.reduceLeDiff, Nat.reduceBEq, Nat.zero_add, Nat.le_refl, decide_true, mkV, List.headD_cons, cellsV, w_fldV, w_ext, w_fldP, List.getElem?_toArray, List.getElem?_cons_zero, List.getElem?_cons_succ, beq_self_eq_true, selV, nilV]
  refine join_of (fun st H' => ∃ v2 dv' rv' d' r' l A', st = [[v2]] ∧ Wst c m a b dv' rv' sv H' (d', r', s.2.2) ∧ Src rSee H' A' v2 l ∧ (∀ y, A' y → H1.size ≤ y) ∧ l.length ≤ 127 ∧ (d', r', s.2.2 ++ l) = turnS s t ∧ Fr (fun y => y ≠ a) H1 H') (fun K hK => ?_) ?_
  · refine ifD_of (fun c1 => ?_) (fun c1 => ?_)
    · refine h1.bx.loadF (by simp) ?_
      try simp only [sv_cons, sv_cons1, sc_cons, sc_cons1, asB_bool, ifB_true, ifB_false, un_not, bin_lss, bin_leq, bin_gtr, bin_geq, bin_eql, bin_neq, bin_add, bin_sub, bin_mul, ok_int, ok_bool, ok_slice, ok_str, ok_ptr, ok_map, ok_func, ok_iface, ok_nil, List.all_cons, List.all_nil, Bool.and_true, Bool.true_and, seg, setSeg, List.drop_succ_cons, List.drop_zero, List.take_succ_cons, List.take_zero, List.cons_append, List.nil_append, List.append_nil, List.length_cons, List.length_nil, List.drop_nil, List.size_toArray, Nat.reduceAdd, Nat.reduceLeDiff, Nat.reduceBEq, Nat.zero_add, Nat.le_refl, decide_true, mkV, List.headD_cons, cellsV, w_fldV, w_ext, w_fldP, List.getElem?_toArray, List.getElem?_cons_zero, List.getElem?_cons_succ, beq_self_eq_true, selV, nilV]
      refine h1.bx.loadF (by simp) ?_
      try simp only [sv_cons, sv_cons1, sc_cons, sc_cons1, asB_bool, ifB_true, ifB_false, un_not, bin_lss, bin_leq, bin_gtr, bin_geq, bin_eql, bin_neq, bin_add, bin_sub, bin_mul, ok_int, ok_bool, ok_slice, ok_str, ok_ptr, ok_map, ok_func, ok_iface, ok_nil, List.all_cons, List.all_nil, Bool.and_true, Bool.true_and, seg, setSeg, List.drop_succ_cons, List.drop_zero, List.take_succ_cons, List.take_zero, List.cons_append, List.nil_append, List.append_nil, List.length_cons, List.length_nil, List.drop_nil, List.size_toArray, Nat.reduceAdd, Nat.reduceLeDiff, Nat.reduceBEq, Nat.zero_add, Nat.le_refl, decide_true, mkV, List.headD_cons, cellsV, w_fldV, w_ext, w_fldP, List.getElem?_toArray, List.getElem?_cons_zero, List.getElem?_cons_succ, beq_self_eq_true, selV, nilV]
      refine c_dev_Read h1.hd hu1 hmid (by omega) fun v1 v2 b1 b2 F ws H2 hR g2 => ?_
      rw [hask, if_pos rfl, if_pos rfl] at hR
      rw [hask]
      try simp only [sv_cons, sv_cons1, sc_cons, sc_cons1, asB_bool, ifB_true, ifB_false, un_not, bin_lss, bin_leq, bin_gtr, bin_geq, bin_eql, bin_neq, bin_add, bin_sub, bin_mul, ok_int, ok_bool, ok_slice, ok_str, ok_ptr, ok_map, ok_func, ok_iface, ok_nil, List.all_cons, List.all_nil, Bool.and_true, Bool.true_and, seg, setSeg, List.drop_succ_cons, List.drop_zero, List.take_succ_cons, List.take_zero, List.cons_append, List.nil_append, List.append_nil, List.length_cons, List.length_nil, List.drop_nil, List.size_toArray, Nat.reduceAdd, Nat.reduceLeDiff, Nat.reduceBEq, Nat.zero_add, Nat.le_refl, decide_true, mkV, List.headD_cons, cellsV, w_fldV, w_ext, w_fldP, List.getElem?_toArray, List.getElem?_cons_zero, List.getElem?_cons_succ, beq_self_eq_true, selV, nilV]
      refine hK _ _ ⟨v2, dv, rv, s.1, s.2.1, _, _, rfl, h1.g g2, hR.o2.src, fun y hy => hy.1, by simp [seesR]; omega, ?_, g2.fr⟩
      unfold turnS
      rw [if_pos c1]
    · obtain ⟨hwr, hln⟩ := htx c1
      have hle : t.at'.length ≤ s.2.1.length := by rw [List.length_take] at hln; omega
      have hp := ht.pos
      refine h1.bx.loadF (by simp) ?_
      try simp only [sv_cons, sv_cons1, sc_cons, sc_cons1, asB_bool, ifB_true, ifB_false, un_not, bin_lss, bin_leq, bin_gtr, bin_geq, bin_eql, bin_neq, bin_add, bin_sub, bin_mul, ok_int, ok_bool, ok_slice, ok_str, ok_ptr, ok_map, ok_func, ok_iface, ok_nil, List.all_cons, List.all_nil, Bool.and_true, Bool.true_and, seg, setSeg, List.drop_succ_cons, List.drop_zero, List.take_succ_cons, List.take_zero, List.cons_append, List.nil_append, List.append_nil, List.length_cons, List.length_nil, List.drop_nil, List.size_toArray, Nat.reduceAdd, Nat.reduceLeDiff, Nat.reduceBEq, Nat.zero_add, Nat.le_refl, decide_true, mkV, List.headD_cons, cellsV, w_fldV, w_ext, w_fldP, List.getElem?_toArray, List.getElem?_cons_zero, List.getElem?_cons_succ, beq_self_eq_true, selV, nilV]
      refine h1.bx.loadF (by simp) ?_
      try simp only [sv_cons, sv_cons1, sc_cons, sc_cons1, asB_bool, ifB_true, ifB_false, un_not, bin_lss, bin_leq, bin_gtr, bin_geq, bin_eql, bin_neq, bin_add, bin_sub, bin_mul, ok_int, ok_bool, ok_slice, ok_str, ok_ptr, ok_map, ok_func, ok_iface, ok_nil, List.all_cons, List.all_nil, Bool.and_true, Bool.true_and, seg, setSeg, List.drop_succ_cons, List.drop_zero, List.take_succ_cons, List.take_zero, List.cons_append, List.nil_append, List.append_nil, List.length_cons, List.length_nil, List.drop_nil, List.size_toArray, Nat.reduceAdd, Nat.reduceLeDiff, Nat.reduceBEq, Nat.zero_add, Nat.le_refl, decide_true, mkV, List.headD_cons, cellsV, w_fldV, w_ext, w_fldP, List.getElem?_toArray, List.getElem?_cons_zero, List.getElem?_cons_succ, beq_self_eq_true, selV, nilV]
      refine h1.bx.loadF (by simp) ?_
      try simp only [sv_cons, sv_cons1, sc_cons, sc_cons1, asB_bool, ifB_true, ifB_false, un_not, bin_lss, bin_leq, bin_gtr, bin_geq, bin_eql, bin_neq, bin_add, bin_sub, bin_mul, ok_int, ok_bool, ok_slice, ok_str, ok_ptr, ok_map, ok_func, ok_iface, ok_nil, List.all_cons, List.all_nil, Bool.and_true, Bool.true_and, seg, setSeg, List.drop_succ_cons, List.drop_zero, List.take_succ_cons, List.take_zero, List.cons_append, List.nil_append, List.append_nil, List.length_cons, List.length_nil, List.drop_nil, List.size_toArray, Nat.reduceAdd, Nat.reduceLeDiff, Nat.reduceBEq, Nat.zero_add, Nat.le_refl, decide_true, mkV, List.headD_cons, cellsV, w_fldV, w_ext, w_fldP, List.getElem?_toArray, List.getElem?_cons_zero, List.getElem?_cons_succ, beq_self_eq_true, selV, nilV]
      refine hu1.len ?_
      refine h1.hr.cut (n := 1) (lo := 0) (hi := t.at'.length) rfl (by omega) (by omega) hle optI_none optI_some fun q hq => ?_
      rw [List.drop_zero, Nat.sub_zero] at hq
      refine c_dev_Write h1.hd hu1 hq hmid (by omega) (by omega) (fun x hx => hlb x (List.mem_of_mem_take hx)) fun v1 v2 O F b2 H2 hW g2 => ?_
      rw [hwr, if_pos rfl, if_pos rfl] at hW
      rw [hwr]
      have h2 := h1.g g2
      have hu2 := hu1.g g2
      refine ⟨hu2.len rfl, h2.bx.loadF (by simp) rfl, ?_⟩
      try simp only [sv_cons, sv_cons1, sc_cons, sc_cons1, asB_bool, ifB_true, ifB_false, un_not, bin_lss, bin_leq, bin_gtr, bin_geq, bin_eql, bin_neq, bin_add, bin_sub, bin_mul, ok_int, ok_bool, ok_slice, ok_str, ok_ptr, ok_map, ok_func, ok_iface, ok_nil, List.all_cons, List.all_nil, Bool.and_true, Bool.true_and, seg, setSeg, List.drop_succ_cons, List.drop_zero, List.take_succ_cons, List.take_zero, List.cons_append, List.nil_append, List.append_nil, List.length_cons, List.length_nil, List.drop_nil, List.size_toArray, Nat.reduceAdd, Nat.reduceLeDiff, Nat.reduceBEq, Nat.zero_add, Nat.le_refl, decide_true, mkV, List.headD_cons, cellsV, w_fldV, w_ext, w_fldP, List.getElem?_toArray, List.getElem?_cons_zero, List.getElem?_cons_succ, beq_self_eq_true, selV, nilV]
      refine Bx.storeG h2.bx (by simp) hW.dv.okcv fun H3 b3 f3 s3 => ?_
      have b3 : Bx H3 a (wCells c v1 rv sv) := b3
      try simp only [sv_cons, sv_cons1, sc_cons, sc_cons1, asB_bool, ifB_true, ifB_false, un_not, bin_lss, bin_leq, bin_gtr, bin_geq, bin_eql, bin_neq, bin_add, bin_sub, bin_mul, ok_int, ok_bool, ok_slice, ok_str, ok_ptr, ok_map, ok_func, ok_iface, ok_nil, List.all_cons, List.all_nil, Bool.and_true, Bool.true_and, seg, setSeg, List.drop_succ_cons, List.drop_zero, List.take_succ_cons, List.take_zero, List.cons_append, List.nil_append, List.append_nil, List.length_cons, List.length_nil, List.drop_nil, List.size_toArray, Nat.reduceAdd, Nat.reduceLeDiff, Nat.reduceBEq, Nat.zero_add, Nat.le_refl, decide_true, mkV, List.headD_cons, cellsV, w_fldV, w_ext, w_fldP, List.getElem?_toArray, List.getElem?_cons_zero, List.getElem?_cons_succ, beq_self_eq_true, selV, nilV]
      refine b3.loadF (by simp) ?_
      try simp only [sv_cons, sv_cons1, sc_cons, sc_cons1, asB_bool, ifB_true, ifB_false, un_not, bin_lss, bin_leq, bin_gtr, bin_geq, bin_eql, bin_neq, bin_add, bin_sub, bin_mul, ok_int, ok_bool, ok_slice, ok_str, ok_ptr, ok_map, ok_func, ok_iface, ok_nil, List.all_cons, List.all_nil, Bool.and_true, Bool.true_and, seg, setSeg, List.drop_succ_cons, List.drop_zero, List.take_succ_cons, List.take_zero, List.cons_append, List.nil_append, List.append_nil, List.length_cons, List.length_nil, List.drop_nil, List.size_toArray, Nat.reduceAdd, Nat.reduceLeDiff, Nat.reduceBEq, Nat.zero_add, Nat.le_refl, decide_true, mkV, List.headD_cons, cellsV, w_fldV, w_ext, w_fldP, List.getElem?_toArray, List.getElem?_cons_zero, List.getElem?_cons_succ, beq_self_eq_true, selV, nilV]
      refine hu2.len ?_
      have hr3 : Sl rBy H3 (fun y => y < m) rv s.2.1 := h2.hr.up f3 fun y hy _ => ⟨show y ≠ a by omega, hy⟩
      refine hr3.cut (n := 1) (lo := t.at'.length) (hi := s.2.1.length) rfl (by omega) (by omega) (Nat.le_refl _) optI_some optI_none fun q3 hq3 => ?_
      rw [List.take_of_length_le (by rw [List.length_drop]; exact Nat.le_refl _)] at hq3
      refine b3.storeF (by simp) hq3.okcv fun H4 b4 f4 s4 => ?_
      have b4 : Bx H4 a (wCells c v1 q3 sv) := b4
      have f34 : Fr (fun y => y ≠ a) H2 H4 := f3.trans f4 fun y _ hy => ⟨hy, hy⟩
      have hs2 := g2.size
      have hvd : Sl rBys H4 (fun y => m ≤ y ∧ y ≠ a ∧ y + 1 ≠ b) v1 (putAll s.1 t.level t.at' (s.2.1.take t.at'.length)) :=
        (hW.dv.sl (A := fun y => H1.size ≤ y ∧ y < H2.size) fun y hy => by have := hW.inO y hy; omega).up f34 fun y hy _ => ⟨show y ≠ a by omega, by omega⟩
      try simp only [sv_cons, sv_cons1, sc_cons, sc_cons1, asB_bool, ifB_true, ifB_false, un_not, bin_lss, bin_leq, bin_gtr, bin_geq, bin_eql, bin_neq, bin_add, bin_sub, bin_mul, ok_int, ok_bool, ok_slice, ok_str, ok_ptr, ok_map, ok_func, ok_iface, ok_nil, List.all_cons, List.all_nil, Bool.and_true, Bool.true_and, seg, setSeg, List.drop_succ_cons, List.drop_zero, List.take_succ_cons, List.take_zero, List.cons_append, List.nil_append, List.append_nil, List.length_cons, List.length_nil, List.drop_nil, List.size_toArray, Nat.reduceAdd, Nat.reduceLeDiff, Nat.reduceBEq, Nat.zero_add, Nat.le_refl, decide_true, mkV, List.headD_cons, cellsV, w_fldV, w_ext, w_fldP, List.getElem?_toArray, List.getElem?_cons_zero, List.getElem?_cons_succ, beq_self_eq_true, selV, nilV]
      refine hK _ _ ⟨v2, v1, q3, _, _, _, _, rfl, ⟨b4, hvd, hq3.up f4 fun y hy _ => ⟨show y ≠ a by omega, hy⟩, h2.hs.up f34 fun y hy _ => ?_, h.fb, h.ma⟩,
        (hW.ss.up f34 fun y hy _ => ?_).src, fun y hy => hy.1, ?_, ?_, Fr.trans g2 f34 fun y _ hy => ⟨trivial, hy⟩⟩
      · show y ≠ a
        rcases hy with hy | hy
        · exact hy.2.1
        · omega
      · show y ≠ a
        rcases hy with hy | hy
        · have := hy.1; omega
        · have := hW.fb; omega
      · have hsw : ∀ (l : List Int) (xs : List By), (seesW t.level l xs).length ≤ l.length := by
          intro l
          induction l with
          | nil => intro xs; simp [seesW]
          | cons b l ih =>
            intro xs
            cases xs with
            | nil => simp [seesW]
            | cons x xs => simp only [seesW, List.length_cons]; have := ih xs; omega
        have := hsw t.at' (s.2.1.take t.at'.length)
        omega
      · unfold turnS
        rw [if_neg c1]
  · rintro st H2 ⟨v2, dv', rv', d', r', l, A', rfl, h2, hsrc, hA', hll, hst, f2⟩
    try simp only [sv_cons, sv_cons1, sc_cons, sc_cons1, asB_bool, ifB_true, ifB_false, un_not, bin_lss, bin_leq, bin_gtr, bin_geq, bin_eql, bin_neq, bin_add, bin_sub, bin_mul, ok_int, ok_bool, ok_slice, ok_str, ok_ptr, ok_map, ok_func, ok_iface, ok_nil, List.all_cons, List.all_nil, Bool.and_true, Bool.true_and, seg, setSeg, List.drop_succ_cons, List.drop_zero, List.take_succ_cons, List.take_zero, List.cons_append, List.nil_append, List.append_nil, List.length_cons, List.length_nil, List.drop_nil, List.size_toArray, Nat.reduceAdd, Nat.reduceLeDiff, Nat.reduceBEq, Nat.zero_add, Nat.le_refl, decide_true, mkV, List.headD_cons, cellsV, w_fldV, w_ext, w_fldP, List.getElem?_toArray, List.getElem?_cons_zero, List.getElem?_cons_succ, beq_self_eq_true, selV, nilV]
    refine h2.bx.loadF (by simp) ?_
    try simp only [sv_cons, sv_cons1, sc_cons, sc_cons1, asB_bool, ifB_true, ifB_false, un_not, bin_lss, bin_leq, bin_gtr, bin_geq, bin_eql, bin_neq, bin_add, bin_sub, bin_mul, ok_int, ok_bool, ok_slice, ok_str, ok_ptr, ok_map, ok_func, ok_iface, ok_nil, List.all_cons, List.all_nil, Bool.and_true, Bool.true_and, seg, setSeg, List.drop_succ_cons, List.drop_zero, List.take_succ_cons, List.take_zero, List.cons_append, List.nil_append, List.append_nil, List.length_cons, List.length_nil, List.drop_nil, List.size_toArray, Nat.reduceAdd, Nat.reduceLeDiff, Nat.reduceBEq, Nat.zero_add, Nat.le_refl, decide_true, mkV, List.headD_cons, cellsV, w_fldV, w_ext, w_fldP, List.getElem?_toArray, List.getElem?_cons_zero, List.getElem?_cons_succ, beq_self_eq_true, selV, nilV]
    have hs2 := f2.size
    have hz1 := g1.size
    refine h2.hs.app hsrc rfl (by decide) rfl (fun y hy hlt => hy.elim (fun h => h.2.2) fun hh => by have := hA' y hh; omega) (by simp only; omega) (by simp only; omega) fun w H3 b' ho f3 hb' _ => ?_
    have hab : a + 1 ≠ b := by omega
    have b3 := h2.bx.up f3 (show a + 1 ≠ b from hab)
    try simp only [sv_cons, sv_cons1, sc_cons, sc_cons1, asB_bool, ifB_true, ifB_false, un_not, bin_lss, bin_leq, bin_gtr, bin_geq, bin_eql, bin_neq, bin_add, bin_sub, bin_mul, ok_int, ok_bool, ok_slice, ok_str, ok_ptr, ok_map, ok_func, ok_iface, ok_nil, List.all_cons, List.all_nil, Bool.and_true, Bool.true_and, seg, setSeg, List.drop_succ_cons, List.drop_zero, List.take_succ_cons, List.take_zero, List.cons_append, List.nil_append, List.append_nil, List.length_cons, List.length_nil, List.drop_nil, List.size_toArray, Nat.reduceAdd, Nat.reduceLeDiff, Nat.reduceBEq, Nat.zero_add, Nat.le_refl, decide_true, mkV, List.headD_cons, cellsV, w_fldV, w_ext, w_fldP, List.getElem?_toArray, List.getElem?_cons_zero, List.getElem?_cons_succ, beq_self_eq_true, selV, nilV]
    refine b3.storeF (by simp) ho.okcv fun H4 b4 f4 s4 => ?_
    have b4 : Bx H4 a (wCells c dv' rv' w) := b4
    have hs3 := f3.size
    refine hQ b' dv' rv' w H4 ?_ (((Fr.trans g1 f2 (C := fun y => y ≠ a) fun y _ hy => ⟨trivial, hy⟩).trans f3 (C := fun y => y ≠ a ∧ y + 1 ≠ b) fun y _ hy => ⟨hy.1, hy.2⟩).trans f4 fun y _ hy => ⟨hy, hy.1⟩) (by omega)
    rw [← hst]
    refine ⟨b4, ?_, ?_, ?_, by omega, h.ma⟩
    · exact (h2.hd.up f3 (A' := fun y => (m ≤ y ∧ y ≠ a ∧ y + 1 ≠ b) ∧ y < H2.size) fun y hy hlt => ⟨hy.2.2, hy, hlt⟩).up f4 fun y hy _ => ⟨show y ≠ a from hy.1.2.1, hy.1.1, hy.1.2.1, by have := hy.1.2.2; have := hy.2; omega⟩
    · exact (h2.hr.up f3 (A' := fun y => y < m) fun y hy _ => ⟨show y + 1 ≠ b by omega, hy⟩).up f4 fun y hy _ => ⟨show y ≠ a by omega, hy⟩
    · have hao : ∀ y, (A' y ∨ (m ≤ y ∧ y ≠ a ∧ y + 1 ≠ b)) → y < H2.size → m ≤ y ∧ y ≠ a ∧ y + 1 ≠ b' := by
        rintro y (hy | hy) hlt
        · have := hA' y hy; omega
        · omega
      refine (ho.mono (A' := fun y => m ≤ y ∧ y ≠ a ∧ y + 1 ≠ b') fun y hy _ => hao y hy.1.symm hy.2).up f4 fun y hy _ => ?_
      show y ≠ a
      rcases hy with hy | hy
      · exact hy.2.1
      · omega

theorem c_canon_Trace {c : Cfg} {w a : Value} {cells : List (List Int)} {all : List By} {ticks : Int} (hc : Sl (rSl (rI .u32)) H B w cells) (ha : Sl rBy H C a all) (ht : i64 ticks) (hcl : cells.length ≤ 1000000) (hal : all.length ≤ 1000000) (hab : ∀ x ∈ all, x.length ≤ 1000000)
    (hQ : ∀ u H', Sl rSee H' (fun y => H.size ≤ y) u (trV c cells all ticks) → G H H' → Q (tup2 u (.int .i64 (trE c cells all ticks))) H') :
    callV Try.prog (fnV fn_canon_Trace) [.agg (cCfg c).toArray, w, a, .int .i64 ticks] H Q := by
  apply S_canon_Trace_of
  unfold S_canon_Trace
  have hc := hc.old
  have ha := ha.old
  refine newC_bx fun H1 b4 g1 s1 => b4.load rfl ?_
  refine c_canon_asked (c := c) (hc.g g1) (ha.g g1) ht hcl hal fun u H2 hu g2 => ?_
  have g := g1.trans g2
  have b4 := b4.g g2
  have hsz1 := g2.size
  try simp only [sv_cons, sv_cons1, sc_cons, sc_cons1, asB_bool, ifB_true, ifB_false, un_not, bin_lss, bin_leq, bin_gtr, bin_geq, bin_eql, bin_neq, bin_add, bin_sub, bin_mul, ok_int, ok_bool, ok_slice, ok_str, ok_ptr, ok_map, ok_func, ok_iface, ok_nil, List.all_cons, List.all_nil, Bool.and_true, Bool.true_and, seg, setSeg, List.drop_succ_cons, List.drop_zero, List.take_succ_cons, List.take_zero, List.cons_append, List.nil_append, List.append_nil, List.length_cons, List.length_nil, List.drop_nil, List.size_toArray, Nat.reduceAdd, Nat.reduceLeDiff, Nat.reduceBEq, Nat.zero_add, Nat.le_refl, decide_true, mkV, List.headD_cons, cellsV, w_fldV, w_ext, w_fldP, List.getElem?_toArray, List.getElem?_cons_zero, List.getElem?_cons_succ, beq_self_eq_true, selV]
  refine ifD_of (fun c1 => ?_) (fun c1 => ?_)
  · have := hQ (.slice none 0 0) H2 (by unfold trV; rw [if_neg c1]; exact Sl.nil _ _ _ _ _) g
    exact this
  have e0 : trE c cells all ticks = 0 := by omega
  have ev : trV c cells all ticks = (runS c all (allT c.all cells ticks.toNat)).2.2 := by unfold trV; rw [if_pos e0]
  rw [e0, if_pos rfl] at hu
  rw [e0] at hQ
  have hcE : cntE c ticks = 0 := by
    unfold trE at e0
    split at e0
    · assumption
    · exact e0
  have hfv : fitV c.all cells all ticks.toNat := by
    unfold trE at e0
    rw [if_pos hcE] at e0
    split at e0
    · assumption
    · cases e0
  have hm : c.may := by
    unfold cntE at hcE
    split at hcE
    · assumption
    · cases hcE
  have htr : 0 ≤ ticks ∧ ticks ≤ 512 := by
    unfold cntE at hcE
    rw [if_pos hm] at hcE
    split at hcE
    · cases hcE
    · omega
  refine b4.load rfl ?_
  refine c_dev_New (c := c) fun dv H3 hd g3 => ?_
  rw [if_pos hm] at hd
  have hsz2 := g3.size
  have hsz0 := g.size
  try simp only [sv_cons, sv_cons1, sc_cons, sc_cons1, asB_bool, ifB_true, ifB_false, un_not, bin_lss, bin_leq, bin_gtr, bin_geq, bin_eql, bin_neq, bin_add, bin_sub, bin_mul, ok_int, ok_bool, ok_slice, ok_str, ok_ptr, ok_map, ok_func, ok_iface, ok_nil, List.all_cons, List.all_nil, Bool.and_true, Bool.true_and, seg, setSeg, List.drop_succ_cons, List.drop_zero, List.take_succ_cons, List.take_zero, List.cons_append, List.nil_append, List.append_nil, List.length_cons, List.length_nil, List.drop_nil, List.size_toArray, Nat.reduceAdd, Nat.reduceLeDiff, Nat.reduceBEq, Nat.zero_add, Nat.le_refl, decide_true, mkV, List.headD_cons, cellsV, w_fldV, w_ext, w_fldP, List.getElem?_toArray, List.getElem?_cons_zero, List.getElem?_cons_succ, beq_self_eq_true, selV]
  refine newC_bx fun H4 b12 g4 s4 => Bx.storeG b12 (by simp) hd.okcv fun H5 b12 f5 s5 => ?_
  have b12 : Bx H5 H3.size [dv] := b12
  have b4 := ((b4.g g3).g g4).up f5 (show H.size ≠ H3.size by omega)
  have g5 : G H2 H5 := (g3.trans g4).then f5 fun y hy => show y ≠ H3.size by omega
  try simp only [sv_cons, sv_cons1, sc_cons, sc_cons1, asB_bool, ifB_true, ifB_false, un_not, bin_lss, bin_leq, bin_gtr, bin_geq, bin_eql, bin_neq, bin_add, bin_sub, bin_mul, ok_int, ok_bool, ok_slice, ok_str, ok_ptr, ok_map, ok_func, ok_iface, ok_nil, List.all_cons, List.all_nil, Bool.and_true, Bool.true_and, seg, setSeg, List.drop_succ_cons, List.drop_zero, List.take_succ_cons, List.take_zero, List.cons_append, List.nil_append, List.append_nil, List.length_cons, List.length_nil, List.drop_nil, List.size_toArray, Nat.reduceAdd, Nat.reduceLeDiff, Nat.reduceBEq, Nat.zero_add, Nat.le_refl, decide_true, mkV, List.headD_cons, cellsV, w_fldV, w_ext, w_fldP, List.getElem?_toArray, List.getElem?_cons_zero, List.getElem?_cons_succ, beq_self_eq_true, selV]
  refine b4.load rfl (b12.load rfl ?_)
  try simp only [sv_cons, sv_cons1, sc_cons, sc_cons1, asB_bool, ifB_true, ifB_false, un_not, bin_lss, bin_leq, bin_gtr, bin_geq, bin_eql, bin_neq, bin_add, bin_sub, bin_mul, ok_int, ok_bool, ok_slice, ok_str, ok_ptr, ok_map, ok_func, ok_iface, ok_nil, List.all_cons, List.all_nil, Bool.and_true, Bool.true_and, seg, setSeg, List.drop_succ_cons, List.drop_zero, List.take_succ_cons, List.take_zero, List.cons_append, List.nil_append, List.append_nil, List.length_cons, List.length_nil, List.drop_nil, List.size_toArray, Nat.reduceAdd, Nat.reduceLeDiff, Nat.reduceBEq, Nat.zero_add, Nat.le_refl, decide_true, mkV, List.headD_cons, cellsV, w_fldV, w_ext, w_fldP, List.getElem?_toArray, List.getElem?_cons_zero, List.getElem?_cons_succ, beq_self_eq_true, selV]
  rw [ha.okcv]
  try simp only [sv_cons, sv_cons1, sc_cons, sc_cons1, asB_bool, ifB_true, ifB_false, un_not, bin_lss, bin_leq, bin_gtr, bin_geq, bin_eql, bin_neq, bin_add, bin_sub, bin_mul, ok_int, ok_bool, ok_slice, ok_str, ok_ptr, ok_map, ok_func, ok_iface, ok_nil, List.all_cons, List.all_nil, Bool.and_true, Bool.true_and, seg, setSeg, List.drop_succ_cons, List.drop_zero, List.take_succ_cons, List.take_zero, List.cons_append, List.nil_append, List.append_nil, List.length_cons, List.length_nil, List.drop_nil, List.size_toArray, Nat.reduceAdd, Nat.reduceLeDiff, Nat.reduceBEq, Nat.zero_add, Nat.le_refl, decide_true, mkV, List.headD_cons, cellsV, w_fldV, w_ext, w_fldP, List.getElem?_toArray, List.getElem?_cons_zero, List.getElem?_cons_succ, beq_self_eq_true, selV]
  unfold cellsU
  try simp only [sv_cons, sv_cons1, sc_cons, sc_cons1, asB_bool, ifB_true, ifB_false, un_not, bin_lss, bin_leq, bin_gtr, bin_geq, bin_eql, bin_neq, bin_add, bin_sub, bin_mul, ok_int, ok_bool, ok_slice, ok_str, ok_ptr, ok_map, ok_func, ok_iface, ok_nil, List.all_cons, List.all_nil, Bool.and_true, Bool.true_and, seg, setSeg, List.drop_succ_cons, List.drop_zero, List.take_succ_cons, List.take_zero, List.cons_append, List.nil_append, List.append_nil, List.length_cons, List.length_nil, List.drop_nil, List.size_toArray, Nat.reduceAdd, Nat.reduceLeDiff, Nat.reduceBEq, Nat.zero_add, Nat.le_refl, decide_true, mkV, List.headD_cons, cellsV, w_fldV, w_ext, w_fldP, List.getElem?_toArray, List.getElem?_cons_zero, List.getElem?_cons_succ, beq_self_eq_true, selV, hd.okcv, ha.okcv]
  refine newC_bx fun H6 b38 g6 s6 => ?_
  have b38 : Bx H6 H5.size (wCells c dv a (.slice none 0 0)) := b38
  refine newC_bx fun H7 b15 g7 s7 => b15.store rfl fun H8 b15 f8 s8 => ?_
  have b38 := (b38.g g7).up f8 (show H5.size ≠ H6.size by omega)
  have g58 : G H5 H8 := (g6.trans g7).then f8 fun y hy => show y ≠ H6.size by omega
  have g28 := g5.trans g58
  have g08 := g.trans g28
  have hsz5 := g5.size
  rw [show (.int .i64 ticks : Value) = .int .i64 ((ticks.toNat : Nat) : Int) by rw [Int.toNat_of_nonneg htr.1]]
  have hok : ∀ x ∈ c.all, x.ok := Cfg.all_ok hm.1
  have hT := allT_ok (cells := cells) (ticks := ticks.toNat) hok
  have hTl := allT_len (l := c.all) (cells := cells) (ticks := ticks.toNat)
  have hwl : (wrL (allT c.all cells ticks.toNat)).length = all.length := by
    have h1 := wr_all (cells := cells) (ticks := ticks.toNat) hok
    have h2 := hfv.2.1
    omega
  have hfp := hfv.2.2
  have hinv := runS_inv hm hT hfp (by omega)
  have hTb : (allT c.all cells ticks.toNat).length ≤ 10000 := by
    rw [hTl]
    have := hm.2
    have h1 : 4 * c.all.length * ticks.toNat ≤ 16 * 512 := Nat.mul_le_mul (by omega) (by omega)
    omega
  have hd8 : Sl rBys H8 (fun y => H.size ≤ y ∧ y ≠ H5.size ∧ y + 1 ≠ 0) dv (blankD c) :=
    ((((hd.mono (A' := fun y => H2.size ≤ y ∧ y < H3.size) fun y hy hlt => ⟨hy, hlt⟩).g g4).up f5 fun y hy _ => ⟨show y ≠ H3.size by omega, hy⟩).g g58).mono fun y hy _ => ⟨by omega, by omega, by omega⟩
  refine c_turns_range (m := H5.size) ((hu.old.g g28).mono fun y hy _ => by omega) ((hc.g g08).mono fun y hy _ => by omega) g58.size (by have := hm.2; omega) (by omega) hfv.1
    (fun i W H' => ∃ b dv rv sv, Wst c H.size H5.size b dv rv sv H' (runS c all ((allT c.all cells ticks.toNat).take i)) ∧ G H H' ∧ Bx H' H6.size [.func (.func fn_canon_writer_turn) #[.pointer (some ⟨H5.size, 0, none⟩)] #[]] ∧ ∀ y, W y ↔ y = H5.size ∨ y + 1 = b)
    (fun _ _ => False) (fun y => y = H5.size) (fun y hy => by omega) ?_ (fun _ _ _ h => h.elim) ?_ ?_ ?_ ?_ (fun _ _ h => h.elim)
  · rintro i W Ha Hb ⟨b, dv, rv, sv, k1, k2, k3, k4⟩ g
    exact ⟨b, dv, rv, sv, k1.g g, k2.trans g, k3.g g, k4⟩
  · intro Ha ga
    refine ⟨0, dv, a, _, ⟨b38.g ga, hd8.g ga, ?_, Ow.nil _ _ _, .inl rfl, by omega⟩, g08.trans ga, b15.g ga, fun y => by omega⟩
    exact ha.g (g08.trans ga)
  · rintro i W Ha ⟨b, dv, rv, sv, k1, k2, k3, k4⟩ y hy
    rcases (k4 y).1 hy with rfl | hy
    · exact k1.bx.lt
    · have := k1.hs.lt; omega
  · rintro i W Ha t q K hti ⟨b, dv, rv, sv, k1, k2, k3, k4⟩ hq hWb hK _
    have hilt := (List.getElem?_eq_some_iff.1 hti).1
    obtain ⟨i1, i2, i3⟩ := hinv i (by omega)
    have htok := hT t (List.mem_of_getElem? hti)
    unfold arg2
    try simp only [sv_cons, sv_cons1, sc_cons, sc_cons1, asB_bool, ifB_true, ifB_false, un_not, bin_lss, bin_leq, bin_gtr, bin_geq, bin_eql, bin_neq, bin_add, bin_sub, bin_mul, ok_int, ok_bool, ok_slice, ok_str, ok_ptr, ok_map, ok_func, ok_iface, ok_nil, List.all_cons, List.all_nil, Bool.and_true, Bool.true_and, seg, setSeg, List.drop_succ_cons, List.drop_zero, List.take_succ_cons, List.take_zero, List.cons_append, List.nil_append, List.append_nil, List.length_cons, List.length_nil, List.drop_nil, List.size_toArray, Nat.reduceAdd, Nat.reduceLeDiff, Nat.reduceBEq, Nat.zero_add, Nat.le_refl, decide_true, mkV, List.headD_cons, cellsV, w_fldV, w_ext, w_fldP, List.getElem?_toArray, List.getElem?_cons_zero, List.getElem?_cons_succ, beq_self_eq_true, selV]
    refine newC_bx fun Hb b16 gb sb => b16.storeA rfl rfl rfl fun Hc b16 fc sc => ?_
    have gc : G Ha Hc := gb.then fc fun y hy => show y ≠ Ha.size by omega
    try simp only [sv_cons, sv_cons1, sc_cons, sc_cons1, asB_bool, ifB_true, ifB_false, un_not, bin_lss, bin_leq, bin_gtr, bin_geq, bin_eql, bin_neq, bin_add, bin_sub, bin_mul, ok_int, ok_bool, ok_slice, ok_str, ok_ptr, ok_map, ok_func, ok_iface, ok_nil, List.all_cons, List.all_nil, Bool.and_true, Bool.true_and, seg, setSeg, List.drop_succ_cons, List.drop_zero, List.take_succ_cons, List.take_zero, List.cons_append, List.nil_append, List.append_nil, List.length_cons, List.length_nil, List.drop_nil, List.size_toArray, Nat.reduceAdd, Nat.reduceLeDiff, Nat.reduceBEq, Nat.zero_add, Nat.le_refl, decide_true, mkV, List.headD_cons, cellsV, w_fldV, w_ext, w_fldP, List.getElem?_toArray, List.getElem?_cons_zero, List.getElem?_cons_succ, beq_self_eq_true, selV]
    refine (k3.g gc).load rfl ?_
    try simp only [sv_cons, sv_cons1, sc_cons, sc_cons1, asB_bool, ifB_true, ifB_false, un_not, bin_lss, bin_leq, bin_gtr, bin_geq, bin_eql, bin_neq, bin_add, bin_sub, bin_mul, ok_int, ok_bool, ok_slice, ok_str, ok_ptr, ok_map, ok_func, ok_iface, ok_nil, List.all_cons, List.all_nil, Bool.and_true, Bool.true_and, seg, setSeg, List.drop_succ_cons, List.drop_zero, List.take_succ_cons, List.take_zero, List.cons_append, List.nil_append, List.append_nil, List.length_cons, List.length_nil, List.drop_nil, List.size_toArray, Nat.reduceAdd, Nat.reduceLeDiff, Nat.reduceBEq, Nat.zero_add, Nat.le_refl, decide_true, mkV, List.headD_cons, cellsV, w_fldV, w_ext, w_fldP, List.getElem?_toArray, List.getElem?_cons_zero, List.getElem?_cons_succ, beq_self_eq_true, selV]
    refine b16.load rfl ?_
    try simp only [sv_cons, sv_cons1, sc_cons, sc_cons1, asB_bool, ifB_true, ifB_false, un_not, bin_lss, bin_leq, bin_gtr, bin_geq, bin_eql, bin_neq, bin_add, bin_sub, bin_mul, ok_int, ok_bool, ok_slice, ok_str, ok_ptr, ok_map, ok_func, ok_iface, ok_nil, List.all_cons, List.all_nil, Bool.and_true, Bool.true_and, seg, setSeg, List.drop_succ_cons, List.drop_zero, List.take_succ_cons, List.take_zero, List.cons_append, List.nil_append, List.append_nil, List.length_cons, List.length_nil, List.drop_nil, List.size_toArray, Nat.reduceAdd, Nat.reduceLeDiff, Nat.reduceBEq, Nat.zero_add, Nat.le_refl, decide_true, mkV, List.headD_cons, cellsV, w_fldV, w_ext, w_fldP, List.getElem?_toArray, List.getElem?_cons_zero, List.getElem?_cons_succ, beq_self_eq_true, selV]
    have k1c := k1.g gc
    refine callV_bound (fs := [.pointer (some ⟨H5.size, 0, none⟩)]) ?_
    refine c_writer_turn k1c (hq.g gc) i1 htok (by rw [i2, List.length_drop]; omega) (fun x hx => hab x (by rw [i2] at hx; exact List.mem_of_mem_drop hx)) (by omega) (fun hk => ?_) fun b' dv' rv' sv' Hd hw fd hb' => ?_
    · obtain ⟨lv, hlv, _, _⟩ := htok.ex
      obtain ⟨x1, x2⟩ := turn_texts hfp (by omega) hti hk hlv
      rw [i2]
      exact ⟨turn_wr i1 htok hlv x1 x2, x1⟩
    · have hbl := k1c.hs.lt
      have hfb := k1.fb
      have hz := gc.size
      refine hK (fun y => y = H5.size ∨ y + 1 = b') Hd ⟨b', dv', rv', sv', ?_, (k2.trans gc).then fd fun y hy => ⟨by omega, by omega⟩, (k3.g gc).up fd ⟨by omega, ?_⟩, fun y => Iff.rfl⟩
        ⟨by have := fd.size; omega, fun y hy hn => ?_, fun y hy => ?_⟩
      · rw [runS_take hti]; exact hw
      · intro e
        have h1 : ¬ (H6.size = H5.size ∨ H6.size + 1 = b) := fun h => by
          rcases hWb H6.size ((k4 _).2 h) with h | h
          · omega
          · omega
        exact h1 (.inr e)
      · have hn' : ¬ (y = H5.size ∨ y + 1 = b) := fun h => hn ((k4 y).2 h)
        rw [fd.same y (by omega) ⟨fun e => hn' (.inl e), fun e => hn' (.inr e)⟩]
        exact gc.same y hy trivial
      · rcases hy with hy | hy
        · exact .inl ((k4 y).2 (.inl hy))
        · rcases hb' with e | e
          · exact .inl ((k4 y).2 (.inr (by omega)))
          · exact .inr (by omega)
  · rintro W Ha ⟨b, dv, rv, sv, k1, k2, k3, k4⟩
    rw [List.take_length] at k1
    try simp only [sv_cons, sv_cons1, sc_cons, sc_cons1, asB_bool, ifB_true, ifB_false, un_not, bin_lss, bin_leq, bin_gtr, bin_geq, bin_eql, bin_neq, bin_add, bin_sub, bin_mul, ok_int, ok_bool, ok_slice, ok_str, ok_ptr, ok_map, ok_func, ok_iface, ok_nil, List.all_cons, List.all_nil, Bool.and_true, Bool.true_and, seg, setSeg, List.drop_succ_cons, List.drop_zero, List.take_succ_cons, List.take_zero, List.cons_append, List.nil_append, List.append_nil, List.length_cons, List.length_nil, List.drop_nil, List.size_toArray, Nat.reduceAdd, Nat.reduceLeDiff, Nat.reduceBEq, Nat.zero_add, Nat.le_refl, decide_true, mkV, List.headD_cons, cellsV, w_fldV, w_ext, w_fldP, List.getElem?_toArray, List.getElem?_cons_zero, List.getElem?_cons_succ, beq_self_eq_true, selV, nilV]
    refine k1.bx.loadF (by simp) ?_
    try simp only [sv_cons, sv_cons1, sc_cons, sc_cons1, asB_bool, ifB_true, ifB_false, un_not, bin_lss, bin_leq, bin_gtr, bin_geq, bin_eql, bin_neq, bin_add, bin_sub, bin_mul, ok_int, ok_bool, ok_slice, ok_str, ok_ptr, ok_map, ok_func, ok_iface, ok_nil, List.all_cons, List.all_nil, Bool.and_true, Bool.true_and, seg, setSeg, List.drop_succ_cons, List.drop_zero, List.take_succ_cons, List.take_zero, List.cons_append, List.nil_append, List.append_nil, List.length_cons, List.length_nil, List.drop_nil, List.size_toArray, Nat.reduceAdd, Nat.reduceLeDiff, Nat.reduceBEq, Nat.zero_add, Nat.le_refl, decide_true, mkV, List.headD_cons, cellsV, w_fldV, w_ext, w_fldP, List.getElem?_toArray, List.getElem?_cons_zero, List.getElem?_cons_succ, beq_self_eq_true, selV]
    have hfb := k1.fb
    refine hQ sv Ha ?_ k2
    rw [ev]
    exact k1.hs.sl (fun y hy _ => hy.1) fun k hk => by omega

/-! ### What was written -/

theorem c_CloneB {x : Value} {bs : By} (hx : Sl rU8 H A x bs) (hl : bs.length ≤ 140737488355328) (hQ : ∀ u H' b, Ow rU8 H' b (fun _ => False) u bs → G H H' → (b = 0 ∨ H.size < b) → Q u H') : callV Try.prog (fnV fn_slices_Clone_byte_byte) [x] H Q := by
  apply S_slices_Clone_byte_byte_of
  exact clone_gen (R := rU8) hx rfl (by decide) rfl (by omega) (by omega) fun u H' b ho g hb => hQ u H' b ho g hb

theorem written_step {l : List See} {i : Nat} {s : See} (h : l[i]? = some s) : writtenL (l.take (i + 1)) = writtenL (l.take i) ++ if s.kind = 2 then [s.bytes] else [] := by
  unfold writtenL
  rw [List.take_add_one, h, List.filter_append, List.map_append]
  congr 1
  simp only [Option.toList_some, List.filter_cons, List.filter_nil]
  by_cases hs : s.kind = 2
  · rw [if_pos hs, if_pos (by simpa using hs)]; rfl
  · rw [if_neg hs, if_neg (by simpa using hs)]; rfl
theorem written_len {l : List See} : (writtenL l).length ≤ l.length := by unfold writtenL; rw [List.length_map]; exact List.length_filter_le _ _

theorem c_canon_Written {x : Value} {l : List See} (hx : Sl rSee H A x l) (hl : l.length ≤ 1000000) (hb : ∀ s ∈ l, s.bytes.length ≤ 140737488355328) (hQ : ∀ v H', Sl rBy H' (fun y => H.size ≤ y) v (writtenL l) → G H H' → Q v H') :
    callV Try.prog (fnV fn_canon_Written) [x] H Q := by
  apply S_canon_Written_of
  unfold S_canon_Written
  refine hx.len ?_
  try simp only [sv_cons, sv_cons1, sc_cons, sc_cons1, asB_bool, ifB_true, ifB_false, un_not, bin_lss, bin_leq, bin_gtr, bin_geq, bin_eql, bin_neq, bin_add, bin_sub, bin_mul, ok_int, ok_bool, ok_slice, ok_str, ok_ptr, ok_map, ok_func, ok_iface, ok_nil, List.all_cons, List.all_nil, Bool.and_true, Bool.true_and, seg, setSeg, List.drop_succ_cons, List.drop_zero, List.take_succ_cons, List.take_zero, List.cons_append, List.nil_append, List.append_nil, List.length_cons, List.length_nil, List.drop_nil, List.size_toArray, Nat.reduceAdd, Nat.reduceLeDiff, Nat.reduceBEq, Nat.zero_add, Nat.le_refl, decide_true, mkV, List.headD_cons, cellsV, w_fldV, w_ext, w_fldP, List.getElem?_toArray, List.getElem?_cons_zero, List.getElem?_cons_succ, beq_self_eq_true, selV]
  refine loop_up l.length (fun i st H' => ∃ v, Bd rBy H H' v (writtenL (l.take i)) ∧ st = [[v], [.int .i64 (i : Int)]]) ⟨_, by simpa [writtenL] using Bd.nil rBy (Fr.refl _ H), rfl⟩ ?_
  rintro i st H' K hi ⟨v, hv, rfl⟩ hK
  try simp only [sv_cons, sv_cons1, sc_cons, sc_cons1, asB_bool, ifB_true, ifB_false, un_not, bin_lss, bin_leq, bin_gtr, bin_geq, bin_eql, bin_neq, bin_add, bin_sub, bin_mul, ok_int, ok_bool, ok_slice, ok_str, ok_ptr, ok_map, ok_func, ok_iface, ok_nil, List.all_cons, List.all_nil, Bool.and_true, Bool.true_and, seg, setSeg, List.drop_succ_cons, List.drop_zero, List.take_succ_cons, List.take_zero, List.cons_append, List.nil_append, List.append_nil, List.length_cons, List.length_nil, List.drop_nil, List.size_toArray, Nat.reduceAdd, Nat.reduceLeDiff, Nat.reduceBEq, Nat.zero_add, Nat.le_refl, decide_true, mkV, List.headD_cons, cellsV, w_fldV, w_ext, w_fldP, List.getElem?_toArray, List.getElem?_cons_zero, List.getElem?_cons_succ, beq_self_eq_true, selV]
  refine ifD_of (fun c1 => ?_) (fun c1 => ?_)
  · have hlt : i < l.length := by omega
    have hxi : l[i]? = some l[i] := List.getElem?_eq_getElem hlt
    have hbi := hb _ (List.getElem_mem hlt)
    have hst := written_step hxi
    have hwl := written_len (l := l.take i)
    rw [List.length_take] at hwl
    generalize l[i] = s at *
    refine (hx.g hv.g).get rfl hxi fun cs hr => ?_
    obtain ⟨u, rfl, hu⟩ := hr
    try simp only [sv_cons, sv_cons1, sc_cons, sc_cons1, asB_bool, ifB_true, ifB_false, un_not, bin_lss, bin_leq, bin_gtr, bin_geq, bin_eql, bin_neq, bin_add, bin_sub, bin_mul, ok_int, ok_bool, ok_slice, ok_str, ok_ptr, ok_map, ok_func, ok_iface, ok_nil, List.all_cons, List.all_nil, Bool.and_true, Bool.true_and, seg, setSeg, List.drop_succ_cons, List.drop_zero, List.take_succ_cons, List.take_zero, List.cons_append, List.nil_append, List.append_nil, List.length_cons, List.length_nil, List.drop_nil, List.size_toArray, Nat.reduceAdd, Nat.reduceLeDiff, Nat.reduceBEq, Nat.zero_add, Nat.le_refl, decide_true, mkV, List.headD_cons, cellsV, w_fldV, w_ext, w_fldP, List.getElem?_toArray, List.getElem?_cons_zero, List.getElem?_cons_succ, beq_self_eq_true, selV]
    refine newT_of fun H1 g1 s1 => ?_
    try simp only [sv_cons, sv_cons1, sc_cons, sc_cons1, asB_bool, ifB_true, ifB_false, un_not, bin_lss, bin_leq, bin_gtr, bin_geq, bin_eql, bin_neq, bin_add, bin_sub, bin_mul, ok_int, ok_bool, ok_slice, ok_str, ok_ptr, ok_map, ok_func, ok_iface, ok_nil, List.all_cons, List.all_nil, Bool.and_true, Bool.true_and, seg, setSeg, List.drop_succ_cons, List.drop_zero, List.take_succ_cons, List.take_zero, List.cons_append, List.nil_append, List.append_nil, List.length_cons, List.length_nil, List.drop_nil, List.size_toArray, Nat.reduceAdd, Nat.reduceLeDiff, Nat.reduceBEq, Nat.zero_add, Nat.le_refl, decide_true, mkV, List.headD_cons, cellsV, w_fldV, w_ext, w_fldP, List.getElem?_toArray, List.getElem?_cons_zero, List.getElem?_cons_succ, beq_self_eq_true, selV, hu.okcv]
    refine join_of (fun st H'' => ∃ v', st = [[v']] ∧ Bd rBy H H'' v' (writtenL (l.take (i + 1)))) (fun K2 hK2 => ?_) ?_
    · refine ifD_of (fun c2 => ?_) (fun c2 => ?_)
      · rw [hst, if_pos c2] at hK2
        refine c_CloneB ((hu.g g1)) hbi fun w H2 bw hw g2 hbw => ?_
        have hwlt := hw.lt
        refine hv.push (g1.trans g2) (A' := fun y => y + 1 = bw) (x := s.bytes) ⟨[w], rfl, w, rfl, hw.slF fun k hk => hk.symm⟩ rfl (by decide) (fun _ => rfl) rfl rfl (fun y hy _ => by have := g1.size; omega) (by omega) (by omega) fun w' H3 hv3 => ?_
        exact hK2 _ _ ⟨w', rfl, hv3⟩
      · rw [hst, if_neg c2, List.append_nil] at hK2
        exact hK2 _ _ ⟨v, rfl, hv.up g1⟩
    · rintro st H'' ⟨v', rfl, hv'⟩
      try simp only [sv_cons, sv_cons1, sc_cons, sc_cons1, asB_bool, ifB_true, ifB_false, un_not, bin_lss, bin_leq, bin_gtr, bin_geq, bin_eql, bin_neq, bin_add, bin_sub, bin_mul, ok_int, ok_bool, ok_slice, ok_str, ok_ptr, ok_map, ok_func, ok_iface, ok_nil, List.all_cons, List.all_nil, Bool.and_true, Bool.true_and, seg, setSeg, List.drop_succ_cons, List.drop_zero, List.take_succ_cons, List.take_zero, List.cons_append, List.nil_append, List.append_nil, List.length_cons, List.length_nil, List.drop_nil, List.size_toArray, Nat.reduceAdd, Nat.reduceLeDiff, Nat.reduceBEq, Nat.zero_add, Nat.le_refl, decide_true, mkV, List.headD_cons, cellsV, w_fldV, w_ext, w_fldP, List.getElem?_toArray, List.getElem?_cons_zero, List.getElem?_cons_succ, beq_self_eq_true, selV]
      rw [wrap_i64 (by unfold i64; omega)]
      exact hK _ _ hlt ⟨v', hv', by simp⟩
  · rw [List.take_of_length_le (by omega)] at hv
    exact hQ v H' hv.sl hv.g

theorem c_ref22_Written {x : Value} {l : List See} (hx : Sl rSee H A x l) (hl : l.length ≤ 1000000) (hb : ∀ s ∈ l, s.bytes.length ≤ 140737488355328) (hQ : ∀ v H', Sl rBy H' (fun y => H.size ≤ y) v (writtenL l) → G H H' → Q v H') :
    callV Try.prog (fnV fn_ref22_Written) [x] H Q := by
  apply S_ref22_Written_of
  unfold S_ref22_Written
  refine loop_up l.length (fun i st H' => ∃ v, Bd rBy H H' v (writtenL (l.take i)) ∧ st = [[v], [.int .i64 (i : Int)]]) ⟨_, by simpa [writtenL] using Bd.nil rBy (Fr.refl _ H), rfl⟩ ?_
  rintro i st H' K hi ⟨v, hv, rfl⟩ hK
  refine (hx.g hv.g).len ?_
  try simp only [sv_cons, sv_cons1, sc_cons, sc_cons1, asB_bool, ifB_true, ifB_false, un_not, bin_lss, bin_leq, bin_gtr, bin_geq, bin_eql, bin_neq, bin_add, bin_sub, bin_mul, ok_int, ok_bool, ok_slice, ok_str, ok_ptr, ok_map, ok_func, ok_iface, ok_nil, List.all_cons, List.all_nil, Bool.and_true, Bool.true_and, seg, setSeg, List.drop_succ_cons, List.drop_zero, List.take_succ_cons, List.take_zero, List.cons_append, List.nil_append, List.append_nil, List.length_cons, List.length_nil, List.drop_nil, List.size_toArray, Nat.reduceAdd, Nat.reduceLeDiff, Nat.reduceBEq, Nat.zero_add, Nat.le_refl, decide_true, mkV, List.headD_cons, cellsV, w_fldV, w_ext, w_fldP, List.getElem?_toArray, List.getElem?_cons_zero, List.getElem?_cons_succ, beq_self_eq_true, selV]
  refine ifD_of (fun c1 => ?_) (fun c1 => ?_)
  · have hlt : i < l.length := by omega
    have hxi : l[i]? = some l[i] := List.getElem?_eq_getElem hlt
    have hbi := hb _ (List.getElem_mem hlt)
    have hst := written_step hxi
    have hwl := written_len (l := l.take i)
    rw [List.length_take] at hwl
    generalize l[i] = s at *
    refine (hx.g hv.g).at rfl hxi fun p cs hp hr => ?_
    obtain ⟨u, rfl, hu⟩ := hr
    refine hp.fld1 (by simp) fun p1 hp1 => hp1.load rfl ?_
    try simp only [sv_cons, sv_cons1, sc_cons, sc_cons1, asB_bool, ifB_true, ifB_false, un_not, bin_lss, bin_leq, bin_gtr, bin_geq, bin_eql, bin_neq, bin_add, bin_sub, bin_mul, ok_int, ok_bool, ok_slice, ok_str, ok_ptr, ok_map, ok_func, ok_iface, ok_nil, List.all_cons, List.all_nil, Bool.and_true, Bool.true_and, seg, setSeg, List.drop_succ_cons, List.drop_zero, List.take_succ_cons, List.take_zero, List.cons_append, List.nil_append, List.append_nil, List.length_cons, List.length_nil, List.drop_nil, List.size_toArray, Nat.reduceAdd, Nat.reduceLeDiff, Nat.reduceBEq, Nat.zero_add, Nat.le_refl, decide_true, mkV, List.headD_cons, cellsV, w_fldV, w_ext, w_fldP, List.getElem?_toArray, List.getElem?_cons_zero, List.getElem?_cons_succ, beq_self_eq_true, selV]
    refine join_of (fun st H'' => ∃ v', st = [[v']] ∧ Bd rBy H H'' v' (writtenL (l.take (i + 1)))) (fun K2 hK2 => ?_) ?_
    · refine ifD_of (fun c2 => ?_) (fun c2 => ?_)
      · rw [hst, if_pos c2] at hK2
        refine bld_nil rU8 fun t H1 ht1 g1 s1 => ?_
        refine (hx.g (hv.g.trans g1)).at rfl hxi fun p cs hp hr => ?_
        obtain ⟨u, rfl, hu⟩ := hr
        refine hp.fld1 (by simp) fun p1 hp1 => hp1.load rfl ?_
        try simp only [sv_cons, sv_cons1, sc_cons, sc_cons1, asB_bool, ifB_true, ifB_false, un_not, bin_lss, bin_leq, bin_gtr, bin_geq, bin_eql, bin_neq, bin_add, bin_sub, bin_mul, ok_int, ok_bool, ok_slice, ok_str, ok_ptr, ok_map, ok_func, ok_iface, ok_nil, List.all_cons, List.all_nil, Bool.and_true, Bool.true_and, seg, setSeg, List.drop_succ_cons, List.drop_zero, List.take_succ_cons, List.take_zero, List.cons_append, List.nil_append, List.append_nil, List.length_cons, List.length_nil, List.drop_nil, List.size_toArray, Nat.reduceAdd, Nat.reduceLeDiff, Nat.reduceBEq, Nat.zero_add, Nat.le_refl, decide_true, mkV, List.headD_cons, cellsV, w_fldV, w_ext, w_fldP, List.getElem?_toArray, List.getElem?_cons_zero, List.getElem?_cons_succ, beq_self_eq_true, selV]
        refine clone_appL ht1 hu rfl hbi fun w H2 bw hw f2 hbw => ?_
        have g2 : G H' H2 := g1.then f2 fun y hy => show y + 1 ≠ H'.size + 1 by omega
        refine hv.push g2 (A' := fun y => y + 1 = bw) (x := s.bytes) ⟨[w], rfl, w, rfl, hw.slF fun k hk => hk.symm⟩ rfl (by decide) (fun _ => rfl) rfl rfl (fun y hy _ => by omega) (by omega) (by omega) fun w' H3 hv3 => ?_
        exact hK2 _ _ ⟨w', rfl, hv3⟩
      · rw [hst, if_neg c2, List.append_nil] at hK2
        exact hK2 _ _ ⟨v, rfl, hv⟩
    · rintro st H'' ⟨v', rfl, hv'⟩
      try simp only [sv_cons, sv_cons1, sc_cons, sc_cons1, asB_bool, ifB_true, ifB_false, un_not, bin_lss, bin_leq, bin_gtr, bin_geq, bin_eql, bin_neq, bin_add, bin_sub, bin_mul, ok_int, ok_bool, ok_slice, ok_str, ok_ptr, ok_map, ok_func, ok_iface, ok_nil, List.all_cons, List.all_nil, Bool.and_true, Bool.true_and, seg, setSeg, List.drop_succ_cons, List.drop_zero, List.take_succ_cons, List.take_zero, List.cons_append, List.nil_append, List.append_nil, List.length_cons, List.length_nil, List.drop_nil, List.size_toArray, Nat.reduceAdd, Nat.reduceLeDiff, Nat.reduceBEq, Nat.zero_add, Nat.le_refl, decide_true, mkV, List.headD_cons, cellsV, w_fldV, w_ext, w_fldP, List.getElem?_toArray, List.getElem?_cons_zero, List.getElem?_cons_succ, beq_self_eq_true, selV]
      rw [wrap_i64 (by unfold i64; omega)]
      exact hK _ _ hlt ⟨v', hv', by simp⟩
  · rw [List.take_of_length_le (by omega)] at hv
    exact hQ v H' hv.sl hv.g

end Go.Proofs.Ytlalkgkicccjiaa
