/- Contracts: faults wrapped and opened are as is said. -/
import Derived.Test.YtioaanmeooonfaaDoorConFault2
import Derived.Test.YtioaanmeooonfaaDoorAbKind
import Derived.Laws.StructEq
namespace Go.Proofs.YtioaanmeooonfaaDoor
open Go.Ab Go.Md
set_option linter.unusedVariables false
set_option linter.unusedSimpArgs false
set_option maxRecDepth 20000

variable {H : Heap} {Q : Value → Heap → Prop} {A B C : Nat → Prop}

/-! ### Marks compared -/

theorem mkPart0 (a b : Value) (w : World) : (part 3 #[a, b] 0).run Tryd.prog w = .ok a w := by kernel_rfl
theorem mkPart1 (a b : Value) (w : World) : (part 3 #[a, b] 1).run Tryd.prog w = .ok b w := by kernel_rfl
theorem mkEq27 (a b c d : Int) (w : World) : (Op.equalIn 10000 27 (.agg #[.int .i64 a, .int .i64 b]) (.agg #[.int .i64 c, .int .i64 d])).run Tryd.prog w = .ok (a == c && b == d) w := by
  have hS : Tryd.prog.underlying 27 = some (.struct (Tryd.prog.fieldsOf 27)) := by kernel_rfl
  have hp : Tryd.prog.stoodInHeld 27 = false := by kernel_rfl
  rw [show (10000 : Nat) = 9999 + 1 from rfl, run_equalIn_struct w 9999 27 _ _ hS hp]
  simp only [Program.fieldsOf, Tryd.underlying27]
  have h3 : ∀ (x y : Int) (w : World), (Op.equalIn 9999 3 (.int .i64 x) (.int .i64 y)).run Tryd.prog w = .ok (x == y) w := fun x y w => run_equalIn_int w 9998 3 .i64 .i64 x y Tryd.underlying3
  simp [Op.eqFields, mkPart0, mkPart1, h3, Result.andThen]
  by_cases h1 : a = c <;> by_cases h2 : b = d <;> simp [h1, h2]
theorem mkGuard (op : BinOp) (ox oy : Operand) (a b : Array Value) (w : World) : (eqGuard op 27 ox oy (.agg a) (.agg b)).run Tryd.prog w = .ok () w := run_eqGuard_agg w op 27 ox oy a b (by kernel_rfl)
theorem mk_beq (m n : Mk) : (m.level == n.level && m.place == n.place) = decide (m = n) := by
  obtain ⟨a, b⟩ := m
  obtain ⟨c, d⟩ := n
  by_cases h1 : a = c <;> by_cases h2 : b = d <;> simp [h1, h2]
theorem eqV_eql {m n : Mk} {k : Value → Prop} (h : k (.bool (decide (m = n)))) : eqV Tryd.prog 27 .eql (vMk m) (vMk n) k := by
  refine ⟨_, fun ox oy w => ?_, h⟩
  simp only [Sem.run_bind, mkGuard, Result.andThen_ok, run_eql_struct, mkEq27, mk_beq]
theorem eqV_neq {m n : Mk} {k : Value → Prop} (h : k (.bool (decide (m ≠ n)))) : eqV Tryd.prog 27 .neq (vMk m) (vMk n) k := by
  rw [decide_not] at h
  refine ⟨_, fun ox oy w => ?_, h⟩
  simp only [Sem.run_bind, mkGuard, Result.andThen_ok, run_neq_struct, mkEq27, mk_beq]

theorem take_step {α : Type} {xs ys : List α} {i : Nat} (h1 : i < xs.length) (h2 : i < ys.length) (h : xs.take i = ys.take i) (he : xs[i] = ys[i]) : xs.take (i + 1) = ys.take (i + 1) := by
  rw [List.take_succ_eq_append_getElem h1, List.take_succ_eq_append_getElem h2, h, he]

theorem c_ref06_Same {f g : Flt} {v w : Value} (hv : Sl rMk H A v f.marks) (hw : Sl rMk H B w g.marks) (hl : f.marks.length ≤ 1000000) (hQ : ∀ H', G H H' → Q (.bool (decide (f = g))) H') :
    callV Tryd.prog (fnV fn_ref06_Same) [.agg #[.int .i64 f.code, v], .agg #[.int .i64 g.code, w]] H Q := by
  apply S_ref06_Same_of
  unfold S_ref06_Same
  obtain ⟨fc, fm⟩ := f
  obtain ⟨gc, gm⟩ := g
  simp only at hv hw hl hQ ⊢
  refine newT_of fun H1 g1 s1 => newT_of fun H2 g2 s2 => ?_
  have g := g1.trans g2
  have hv := hv.g g
  have hw := hw.g g
  refine hv.len (hw.len ?_)
  try simp only [sv_cons, sv_cons1, sc_cons, sc_cons1, asB_bool, ifB_true, ifB_false, un_not, bin_lss, bin_leq, bin_gtr, bin_geq, bin_eql, bin_neq, bin_add, bin_sub, bin_mul, ok_int, ok_bool, ok_slice, ok_str, ok_ptr, ok_map, ok_func, ok_iface, ok_nil, List.all_cons, List.all_nil, Bool.and_true, Bool.true_and, seg, setSeg, List.drop_succ_cons, List.drop_zero, List.take_succ_cons, List.take_zero, List.cons_append, List.nil_append, List.append_nil, List.length_cons, List.length_nil, List.drop_nil, List.size_toArray, Nat.reduceAdd, Nat.reduceLeDiff, Nat.reduceBEq, Nat.zero_add, Nat.le_refl, decide_true, mkV, List.headD_cons, cellsV, w_fldV, w_ext, w_fldP, List.getElem?_toArray, List.getElem?_cons_zero, List.getElem?_cons_succ, beq_self_eq_true, selV]
  refine ifD_of (fun c1 => ?_) (fun c1 => ?_)
  · have := hQ H2 g
    rw [decide_eq_false (fun h => by cases h; exact c1 rfl)] at this
    exact this
  have hll : fm.length = gm.length := by omega
  refine loop_up fm.length (fun i s H' => s = [[.int .i64 (i : Int)]] ∧ H' = H2 ∧ fm.take i = gm.take i) ⟨rfl, rfl, by simp⟩ ?_
  rintro i s H' K hi ⟨rfl, rfl, ht⟩ hK
  refine hv.len ?_
  try simp only [sv_cons, sv_cons1, sc_cons, sc_cons1, asB_bool, ifB_true, ifB_false, un_not, bin_lss, bin_leq, bin_gtr, bin_geq, bin_eql, bin_neq, bin_add, bin_sub, bin_mul, ok_int, ok_bool, ok_slice, ok_str, ok_ptr, ok_map, ok_func, ok_iface, ok_nil, List.all_cons, List.all_nil, Bool.and_true, Bool.true_and, seg, setSeg, List.drop_succ_cons, List.drop_zero, List.take_succ_cons, List.take_zero, List.cons_append, List.nil_append, List.append_nil, List.length_cons, List.length_nil, List.drop_nil, List.size_toArray, Nat.reduceAdd, Nat.reduceLeDiff, Nat.reduceBEq, Nat.zero_add, Nat.le_refl, decide_true, mkV, List.headD_cons, cellsV, w_fldV, w_ext, w_fldP, List.getElem?_toArray, List.getElem?_cons_zero, List.getElem?_cons_succ, beq_self_eq_true, selV]
  refine ifD_of (fun c2 => ?_) (fun c2 => ?_)
  · have hlt : i < fm.length := by omega
    have hlt2 : i < gm.length := by omega
    refine hv.get rfl (List.getElem?_eq_getElem hlt) fun cs hr => ?_
    obtain ⟨rfl, _⟩ := hr
    refine hw.get rfl (List.getElem?_eq_getElem hlt2) fun cs hr => ?_
    obtain ⟨rfl, _⟩ := hr
    refine eqV_neq ?_
    try simp only [sv_cons, sv_cons1, sc_cons, sc_cons1, asB_bool, ifB_true, ifB_false, un_not, bin_lss, bin_leq, bin_gtr, bin_geq, bin_eql, bin_neq, bin_add, bin_sub, bin_mul, ok_int, ok_bool, ok_slice, ok_str, ok_ptr, ok_map, ok_func, ok_iface, ok_nil, List.all_cons, List.all_nil, Bool.and_true, Bool.true_and, seg, setSeg, List.drop_succ_cons, List.drop_zero, List.take_succ_cons, List.take_zero, List.cons_append, List.nil_append, List.append_nil, List.length_cons, List.length_nil, List.drop_nil, List.size_toArray, Nat.reduceAdd, Nat.reduceLeDiff, Nat.reduceBEq, Nat.zero_add, Nat.le_refl, decide_true, mkV, List.headD_cons, cellsV, w_fldV, w_ext, w_fldP, List.getElem?_toArray, List.getElem?_cons_zero, List.getElem?_cons_succ, beq_self_eq_true, selV]
    refine ifD_of (fun c3 => ?_) (fun c3 => ?_)
    · have := hQ H' g
      rw [decide_eq_false (fun h => by cases h; exact c3 rfl)] at this
      exact this
    · rw [wrap_i64 (by unfold i64; omega)]
      exact hK _ _ hlt ⟨by simp, rfl, take_step hlt hlt2 ht (Decidable.not_not.1 c3)⟩
  · rw [List.take_of_length_le (by omega), List.take_of_length_le (by omega)] at ht
    have := hQ H' g
    rw [show decide ((⟨fc, fm⟩ : Flt) = ⟨gc, gm⟩) = decide (fc = gc) by rw [decide_eq_decide]; constructor <;> intro h <;> simp_all] at this
    exact this

theorem loose_Mk : Loose rMk (fun _ => ()) := by
  intro H H' A cs cs' x ⟨hc, hw⟩ _ _ hs
  subst hc
  obtain ⟨hl, hs⟩ := hs
  match cs', hl with
  | [y0, y1], _ =>
    have key : ∀ (a : Int) (y : Value), i64 a → SameK (.int .i64 a) y → ∃ b, y = .int .i64 b ∧ i64 b := fun a y ha h => by
      rcases h with e | ⟨q', a', b, e1, e2, e3⟩
      · exact ⟨_, e.symm, ha⟩
      · cases e1; exact ⟨b, e2, i64_wrap e3⟩
    obtain ⟨a, rfl, ha⟩ := key _ _ hw.1 (hs 0 _ y0 rfl rfl)
    obtain ⟨b, rfl, hb⟩ := key _ _ hw.2 (hs 1 _ y1 rfl rfl)
    exact ⟨⟨a, b⟩, ⟨rfl, ha, hb⟩, rfl⟩

theorem c_FaultWraps {f : Flt} {m : Mk} {v : Value} (hv : Sl rMk H A v f.marks) (hm : i64 m.level ∧ i64 m.place) (h0 : AtC H (fun _ => True) (.pointer (some ⟨0, 0, none⟩)) [rtV 48]) (hQ : ∀ H', G H H' → Q (.bool true) H') :
    callV Tryd.prog (fnV fn_law06_FaultWraps) [.agg #[.int .i64 f.code, v], vMk m] H Q := by
  apply S_law06_FaultWraps_of
  unfold S_law06_FaultWraps
  have hv := hv.old
  refine newT_of fun H1 g1 s1 => newT_of fun H2 g2 s2 => ?_
  have g := g1.trans g2
  refine (hv.g g).len ?_
  try simp only [sv_cons, sv_cons1, sc_cons, sc_cons1, asB_bool, ifB_true, ifB_false, un_not, bin_lss, bin_leq, bin_gtr, bin_geq, bin_eql, bin_neq, bin_add, bin_sub, bin_mul, ok_int, ok_bool, ok_slice, ok_str, ok_ptr, ok_map, ok_func, ok_iface, ok_nil, List.all_cons, List.all_nil, Bool.and_true, Bool.true_and, seg, setSeg, List.drop_succ_cons, List.drop_zero, List.take_succ_cons, List.take_zero, List.cons_append, List.nil_append, List.append_nil, List.length_cons, List.length_nil, List.drop_nil, List.size_toArray, Nat.reduceAdd, Nat.reduceLeDiff, Nat.reduceBEq, Nat.zero_add, Nat.le_refl, decide_true, mkV, List.headD_cons, cellsV, w_fldV, w_ext, w_fldP, List.getElem?_toArray, List.getElem?_cons_zero, List.getElem?_cons_succ, beq_self_eq_true, selV]
  refine ifD_of (fun _ => hQ _ g) (fun c1 => ?_)
  have hl : f.marks.length ≤ 1000000 := by omega
  refine c_ref06_Twin (hv.g g) hl fun o H3 ho g3 => ?_
  try simp only [sv_cons, sv_cons1, sc_cons, sc_cons1, asB_bool, ifB_true, ifB_false, un_not, bin_lss, bin_leq, bin_gtr, bin_geq, bin_eql, bin_neq, bin_add, bin_sub, bin_mul, ok_int, ok_bool, ok_slice, ok_str, ok_ptr, ok_map, ok_func, ok_iface, ok_nil, List.all_cons, List.all_nil, Bool.and_true, Bool.true_and, seg, setSeg, List.drop_succ_cons, List.drop_zero, List.take_succ_cons, List.take_zero, List.cons_append, List.nil_append, List.append_nil, List.length_cons, List.length_nil, List.drop_nil, List.size_toArray, Nat.reduceAdd, Nat.reduceLeDiff, Nat.reduceBEq, Nat.zero_add, Nat.le_refl, decide_true, mkV, List.headD_cons, cellsV, w_fldV, w_ext, w_fldP, List.getElem?_toArray, List.getElem?_cons_zero, List.getElem?_cons_succ, beq_self_eq_true, selV, ho.okcv]
  refine newT_of fun H4 g4 s4 => ?_
  have g := (g.trans g3).trans g4
  have ho := (ho.g g4).old
  have hz4 := g.size
  try simp only [sv_cons, sv_cons1, sc_cons, sc_cons1, asB_bool, ifB_true, ifB_false, un_not, bin_lss, bin_leq, bin_gtr, bin_geq, bin_eql, bin_neq, bin_add, bin_sub, bin_mul, ok_int, ok_bool, ok_slice, ok_str, ok_ptr, ok_map, ok_func, ok_iface, ok_nil, List.all_cons, List.all_nil, Bool.and_true, Bool.true_and, seg, setSeg, List.drop_succ_cons, List.drop_zero, List.take_succ_cons, List.take_zero, List.cons_append, List.nil_append, List.append_nil, List.length_cons, List.length_nil, List.drop_nil, List.size_toArray, Nat.reduceAdd, Nat.reduceLeDiff, Nat.reduceBEq, Nat.zero_add, Nat.le_refl, decide_true, mkV, List.headD_cons, cellsV, w_fldV, w_ext, w_fldP, List.getElem?_toArray, List.getElem?_cons_zero, List.getElem?_cons_succ, beq_self_eq_true, selV, ho.okcv]
  refine callV_new ?_
  refine c_fault_Wrap ho hl hm fun x H5 hx g5 hW5 => ?_
  have hx : Sl rMk H5 (fun y => H4.size ≤ y ∧ y < H5.size) x (wrapV f m).marks := hx.mono fun y hy hlt => ⟨hy, hlt⟩
  have hW5 : Wbl (fun y => H4.size ≤ y ∧ y < H5.size) H5 := hW5.mono fun y hy => hy.1
  have g := g.trans g5
  try simp only [sv_cons, sv_cons1, sc_cons, sc_cons1, asB_bool, ifB_true, ifB_false, un_not, bin_lss, bin_leq, bin_gtr, bin_geq, bin_eql, bin_neq, bin_add, bin_sub, bin_mul, ok_int, ok_bool, ok_slice, ok_str, ok_ptr, ok_map, ok_func, ok_iface, ok_nil, List.all_cons, List.all_nil, Bool.and_true, Bool.true_and, seg, setSeg, List.drop_succ_cons, List.drop_zero, List.take_succ_cons, List.take_zero, List.cons_append, List.nil_append, List.append_nil, List.length_cons, List.length_nil, List.drop_nil, List.size_toArray, Nat.reduceAdd, Nat.reduceLeDiff, Nat.reduceBEq, Nat.zero_add, Nat.le_refl, decide_true, mkV, List.headD_cons, cellsV, w_fldV, w_ext, w_fldP, List.getElem?_toArray, List.getElem?_cons_zero, List.getElem?_cons_succ, beq_self_eq_true, selV, hx.okcv]
  refine newT_of fun H6 g6 s6 => ?_
  have g := g.trans g6
  try simp only [sv_cons, sv_cons1, sc_cons, sc_cons1, asB_bool, ifB_true, ifB_false, un_not, bin_lss, bin_leq, bin_gtr, bin_geq, bin_eql, bin_neq, bin_add, bin_sub, bin_mul, ok_int, ok_bool, ok_slice, ok_str, ok_ptr, ok_map, ok_func, ok_iface, ok_nil, List.all_cons, List.all_nil, Bool.and_true, Bool.true_and, seg, setSeg, List.drop_succ_cons, List.drop_zero, List.take_succ_cons, List.take_zero, List.cons_append, List.nil_append, List.append_nil, List.length_cons, List.length_nil, List.drop_nil, List.size_toArray, Nat.reduceAdd, Nat.reduceLeDiff, Nat.reduceBEq, Nat.zero_add, Nat.le_refl, decide_true, mkV, List.headD_cons, cellsV, w_fldV, w_ext, w_fldP, List.getElem?_toArray, List.getElem?_cons_zero, List.getElem?_cons_succ, beq_self_eq_true, selV, hx.okcv]
  refine c_ref06_Wrap (hv.g g) hl hm fun y H7 hy g7 => ?_
  have g := g.trans g7
  try simp only [sv_cons, sv_cons1, sc_cons, sc_cons1, asB_bool, ifB_true, ifB_false, un_not, bin_lss, bin_leq, bin_gtr, bin_geq, bin_eql, bin_neq, bin_add, bin_sub, bin_mul, ok_int, ok_bool, ok_slice, ok_str, ok_ptr, ok_map, ok_func, ok_iface, ok_nil, List.all_cons, List.all_nil, Bool.and_true, Bool.true_and, seg, setSeg, List.drop_succ_cons, List.drop_zero, List.take_succ_cons, List.take_zero, List.cons_append, List.nil_append, List.append_nil, List.length_cons, List.length_nil, List.drop_nil, List.size_toArray, Nat.reduceAdd, Nat.reduceLeDiff, Nat.reduceBEq, Nat.zero_add, Nat.le_refl, decide_true, mkV, List.headD_cons, cellsV, w_fldV, w_ext, w_fldP, List.getElem?_toArray, List.getElem?_cons_zero, List.getElem?_cons_succ, beq_self_eq_true, selV, hy.okcv]
  refine newT_of fun H8 g8 s8 => ?_
  have g := g.trans g8
  have g58 := (g6.trans g7).trans g8
  have hy := hy.g g8
  try simp only [sv_cons, sv_cons1, sc_cons, sc_cons1, asB_bool, ifB_true, ifB_false, un_not, bin_lss, bin_leq, bin_gtr, bin_geq, bin_eql, bin_neq, bin_add, bin_sub, bin_mul, ok_int, ok_bool, ok_slice, ok_str, ok_ptr, ok_map, ok_func, ok_iface, ok_nil, List.all_cons, List.all_nil, Bool.and_true, Bool.true_and, seg, setSeg, List.drop_succ_cons, List.drop_zero, List.take_succ_cons, List.take_zero, List.cons_append, List.nil_append, List.append_nil, List.length_cons, List.length_nil, List.drop_nil, List.size_toArray, Nat.reduceAdd, Nat.reduceLeDiff, Nat.reduceBEq, Nat.zero_add, Nat.le_refl, decide_true, mkV, List.headD_cons, cellsV, w_fldV, w_ext, w_fldP, List.getElem?_toArray, List.getElem?_cons_zero, List.getElem?_cons_succ, beq_self_eq_true, selV, ho.okcv, hy.okcv]
  have ho8 := ho.g (g5.trans g58)
  have hz58 := g58.size
  refine callV_new ?_
  refine c_fault_Open ho8 hl (h0.g g) fun p H9 hp g9 hW9 => ?_
  have hp : Sl rMk H9 (fun y => H8.size ≤ y ∧ y < H9.size) p (openV f).marks := hp.mono fun y hy hlt => ⟨hy, hlt⟩
  have hW9 : Wbl (fun y => H8.size ≤ y ∧ y < H9.size) H9 := hW9.mono fun y hy => hy.1
  have g := g.trans g9
  try simp only [sv_cons, sv_cons1, sc_cons, sc_cons1, asB_bool, ifB_true, ifB_false, un_not, bin_lss, bin_leq, bin_gtr, bin_geq, bin_eql, bin_neq, bin_add, bin_sub, bin_mul, ok_int, ok_bool, ok_slice, ok_str, ok_ptr, ok_map, ok_func, ok_iface, ok_nil, List.all_cons, List.all_nil, Bool.and_true, Bool.true_and, seg, setSeg, List.drop_succ_cons, List.drop_zero, List.take_succ_cons, List.take_zero, List.cons_append, List.nil_append, List.append_nil, List.length_cons, List.length_nil, List.drop_nil, List.size_toArray, Nat.reduceAdd, Nat.reduceLeDiff, Nat.reduceBEq, Nat.zero_add, Nat.le_refl, decide_true, mkV, List.headD_cons, cellsV, w_fldV, w_ext, w_fldP, List.getElem?_toArray, List.getElem?_cons_zero, List.getElem?_cons_succ, beq_self_eq_true, selV, hp.okcv]
  refine newT_of fun H10 g10 s10 => newT_of fun H11 g11 s11 => ?_
  have g := (g.trans g10).trans g11
  try simp only [sv_cons, sv_cons1, sc_cons, sc_cons1, asB_bool, ifB_true, ifB_false, un_not, bin_lss, bin_leq, bin_gtr, bin_geq, bin_eql, bin_neq, bin_add, bin_sub, bin_mul, ok_int, ok_bool, ok_slice, ok_str, ok_ptr, ok_map, ok_func, ok_iface, ok_nil, List.all_cons, List.all_nil, Bool.and_true, Bool.true_and, seg, setSeg, List.drop_succ_cons, List.drop_zero, List.take_succ_cons, List.take_zero, List.cons_append, List.nil_append, List.append_nil, List.length_cons, List.length_nil, List.drop_nil, List.size_toArray, Nat.reduceAdd, Nat.reduceLeDiff, Nat.reduceBEq, Nat.zero_add, Nat.le_refl, decide_true, mkV, List.headD_cons, cellsV, w_fldV, w_ext, w_fldP, List.getElem?_toArray, List.getElem?_cons_zero, List.getElem?_cons_succ, beq_self_eq_true, selV, hp.okcv]
  refine c_ref06_Open (hv.g g) hl fun q H12 hq g12 => ?_
  have g := g.trans g12
  try simp only [sv_cons, sv_cons1, sc_cons, sc_cons1, asB_bool, ifB_true, ifB_false, un_not, bin_lss, bin_leq, bin_gtr, bin_geq, bin_eql, bin_neq, bin_add, bin_sub, bin_mul, ok_int, ok_bool, ok_slice, ok_str, ok_ptr, ok_map, ok_func, ok_iface, ok_nil, List.all_cons, List.all_nil, Bool.and_true, Bool.true_and, seg, setSeg, List.drop_succ_cons, List.drop_zero, List.take_succ_cons, List.take_zero, List.cons_append, List.nil_append, List.append_nil, List.length_cons, List.length_nil, List.drop_nil, List.size_toArray, Nat.reduceAdd, Nat.reduceLeDiff, Nat.reduceBEq, Nat.zero_add, Nat.le_refl, decide_true, mkV, List.headD_cons, cellsV, w_fldV, w_ext, w_fldP, List.getElem?_toArray, List.getElem?_cons_zero, List.getElem?_cons_succ, beq_self_eq_true, selV, hq.okcv]
  refine newT_of fun H13 g13 s13 => newT_of fun H14 g14 s14 => ?_
  have g := (g.trans g13).trans g14
  have g914 := (((g10.trans g11).trans g12).trans g13).trans g14
  have g514 := (g58.trans g9).trans g914
  have hx := hx.g g514
  have hy := hy.g (g9.trans g914)
  have hp := hp.g g914
  have hq := (hq.g g13).g g14
  have ho14 := ho.g (g5.trans g514)
  have hWx : Wbl (fun y => H4.size ≤ y ∧ y < H5.size) H14 := hW5.fr g514 fun y hy => ⟨hy.2, trivial⟩
  have hWp : Wbl (fun y => H8.size ≤ y ∧ y < H9.size) H14 := hW9.fr g914 fun y hy => ⟨hy.2, trivial⟩
  try simp only [sv_cons, sv_cons1, sc_cons, sc_cons1, asB_bool, ifB_true, ifB_false, un_not, bin_lss, bin_leq, bin_gtr, bin_geq, bin_eql, bin_neq, bin_add, bin_sub, bin_mul, ok_int, ok_bool, ok_slice, ok_str, ok_ptr, ok_map, ok_func, ok_iface, ok_nil, List.all_cons, List.all_nil, Bool.and_true, Bool.true_and, seg, setSeg, List.drop_succ_cons, List.drop_zero, List.take_succ_cons, List.take_zero, List.cons_append, List.nil_append, List.append_nil, List.length_cons, List.length_nil, List.drop_nil, List.size_toArray, Nat.reduceAdd, Nat.reduceLeDiff, Nat.reduceBEq, Nat.zero_add, Nat.le_refl, decide_true, mkV, List.headD_cons, cellsV, w_fldV, w_ext, w_fldP, List.getElem?_toArray, List.getElem?_cons_zero, List.getElem?_cons_succ, beq_self_eq_true, selV, hx.okcv, hy.okcv, hp.okcv, hq.okcv]
  have hwl : (wrapV f m).marks.length ≤ 21 := by unfold wrapV; split <;> simp; omega
  have hol : (openV f).marks.length ≤ 20 := by unfold openV; split <;> simp; omega
  refine join_of (fun s H' => s = [[.bool true]] ∧ G H14 H') (fun K hK => ?_) ?_
  · try simp only [sv_cons, sv_cons1, sc_cons, sc_cons1, asB_bool, ifB_true, ifB_false, un_not, bin_lss, bin_leq, bin_gtr, bin_geq, bin_eql, bin_neq, bin_add, bin_sub, bin_mul, ok_int, ok_bool, ok_slice, ok_str, ok_ptr, ok_map, ok_func, ok_iface, ok_nil, List.all_cons, List.all_nil, Bool.and_true, Bool.true_and, seg, setSeg, List.drop_succ_cons, List.drop_zero, List.take_succ_cons, List.take_zero, List.cons_append, List.nil_append, List.append_nil, List.length_cons, List.length_nil, List.drop_nil, List.size_toArray, Nat.reduceAdd, Nat.reduceLeDiff, Nat.reduceBEq, Nat.zero_add, Nat.le_refl, decide_true, mkV, List.headD_cons, cellsV, w_fldV, w_ext, w_fldP, List.getElem?_toArray, List.getElem?_cons_zero, List.getElem?_cons_succ, beq_self_eq_true, selV]
    refine c_ref06_Same (f := wrapV f m) (g := wrapV f m) hx hy (by omega) fun H15 g15 => ?_
    rw [decide_eq_true rfl]
    try simp only [sv_cons, sv_cons1, sc_cons, sc_cons1, asB_bool, ifB_true, ifB_false, un_not, bin_lss, bin_leq, bin_gtr, bin_geq, bin_eql, bin_neq, bin_add, bin_sub, bin_mul, ok_int, ok_bool, ok_slice, ok_str, ok_ptr, ok_map, ok_func, ok_iface, ok_nil, List.all_cons, List.all_nil, Bool.and_true, Bool.true_and, seg, setSeg, List.drop_succ_cons, List.drop_zero, List.take_succ_cons, List.take_zero, List.cons_append, List.nil_append, List.append_nil, List.length_cons, List.length_nil, List.drop_nil, List.size_toArray, Nat.reduceAdd, Nat.reduceLeDiff, Nat.reduceBEq, Nat.zero_add, Nat.le_refl, decide_true, mkV, List.headD_cons, cellsV, w_fldV, w_ext, w_fldP, List.getElem?_toArray, List.getElem?_cons_zero, List.getElem?_cons_succ, beq_self_eq_true, selV, decide_true, eq_self]
    refine c_ref06_Same (f := openV f) (g := openV f) (hp.g g15) (hq.g g15) (by omega) fun H16 g16 => ?_
    rw [decide_eq_true rfl]
    try simp only [sv_cons, sv_cons1, sc_cons, sc_cons1, asB_bool, ifB_true, ifB_false, un_not, bin_lss, bin_leq, bin_gtr, bin_geq, bin_eql, bin_neq, bin_add, bin_sub, bin_mul, ok_int, ok_bool, ok_slice, ok_str, ok_ptr, ok_map, ok_func, ok_iface, ok_nil, List.all_cons, List.all_nil, Bool.and_true, Bool.true_and, seg, setSeg, List.drop_succ_cons, List.drop_zero, List.take_succ_cons, List.take_zero, List.cons_append, List.nil_append, List.append_nil, List.length_cons, List.length_nil, List.drop_nil, List.size_toArray, Nat.reduceAdd, Nat.reduceLeDiff, Nat.reduceBEq, Nat.zero_add, Nat.le_refl, decide_true, mkV, List.headD_cons, cellsV, w_fldV, w_ext, w_fldP, List.getElem?_toArray, List.getElem?_cons_zero, List.getElem?_cons_succ, beq_self_eq_true, selV, decide_true, eq_self]
    refine eqV_eql (m := openM f) (n := openM f) ?_
    rw [decide_eq_true rfl]
    try simp only [sv_cons, sv_cons1, sc_cons, sc_cons1, asB_bool, ifB_true, ifB_false, un_not, bin_lss, bin_leq, bin_gtr, bin_geq, bin_eql, bin_neq, bin_add, bin_sub, bin_mul, ok_int, ok_bool, ok_slice, ok_str, ok_ptr, ok_map, ok_func, ok_iface, ok_nil, List.all_cons, List.all_nil, Bool.and_true, Bool.true_and, seg, setSeg, List.drop_succ_cons, List.drop_zero, List.take_succ_cons, List.take_zero, List.cons_append, List.nil_append, List.append_nil, List.length_cons, List.length_nil, List.drop_nil, List.size_toArray, Nat.reduceAdd, Nat.reduceLeDiff, Nat.reduceBEq, Nat.zero_add, Nat.le_refl, decide_true, mkV, List.headD_cons, cellsV, w_fldV, w_ext, w_fldP, List.getElem?_toArray, List.getElem?_cons_zero, List.getElem?_cons_succ, beq_self_eq_true, selV, decide_true, eq_self]
    refine c_fault_Check (f := f) (ho14.g (g15.trans g16)) hl fun H17 g17 => ?_
    refine c_ref06_Check (f := f) (hv.g (((g.trans g15).trans g16).trans g17)) hl fun H18 g18 => ?_
    try simp only [sv_cons, sv_cons1, sc_cons, sc_cons1, asB_bool, ifB_true, ifB_false, un_not, bin_lss, bin_leq, bin_gtr, bin_geq, bin_eql, bin_neq, bin_add, bin_sub, bin_mul, ok_int, ok_bool, ok_slice, ok_str, ok_ptr, ok_map, ok_func, ok_iface, ok_nil, List.all_cons, List.all_nil, Bool.and_true, Bool.true_and, seg, setSeg, List.drop_succ_cons, List.drop_zero, List.take_succ_cons, List.take_zero, List.cons_append, List.nil_append, List.append_nil, List.length_cons, List.length_nil, List.drop_nil, List.size_toArray, Nat.reduceAdd, Nat.reduceLeDiff, Nat.reduceBEq, Nat.zero_add, Nat.le_refl, decide_true, mkV, List.headD_cons, cellsV, w_fldV, w_ext, w_fldP, List.getElem?_toArray, List.getElem?_cons_zero, List.getElem?_cons_succ, beq_self_eq_true, selV, decide_true, eq_self]
    exact hK _ _ ⟨rfl, ((g15.trans g16).trans g17).trans g18⟩
  rintro s H15 ⟨rfl, g15⟩
  have g := g.trans g15
  have hx := hx.g g15
  have hp := hp.g g15
  have ho15 := ho14.g g15
  have hzz := g514.size
  have hWx := hWx.fr g15 fun y hy => ⟨by have := hy.2; have := g5.size; omega, trivial⟩
  have hWp := hWp.fr g15 fun y hy => ⟨by have := hy.2; have := g914.size; omega, trivial⟩
  generalize hA : (fun y : Nat => H4.size ≤ y ∧ y < H5.size) = Ax at *
  generalize hB : (fun y : Nat => H8.size ≤ y ∧ y < H9.size) = Ap at *
  have frx : ∀ {Ha Hb : Heap}, Kd Ax Ha Hb → Fr (fun y => y < H4.size ∨ H5.size ≤ y) Ha Hb := fun k => k.fr.mono fun y _ hy => fun h => by rw [← hA] at h; omega
  have frp : ∀ {Ha Hb : Heap}, Kd Ap Ha Hb → Fr (fun y => y < H8.size) Ha Hb := fun k => k.fr.mono fun y _ hy => fun h => by rw [← hB] at h; omega
  generalize hxm : (wrapV f m).marks = xm at *
  generalize hpm : (openV f).marks = pm at *
  refine loop_up xm.length (fun i st H' => Kd Ax H15 H' ∧ st = [[.int .i64 (i : Int)]]) ⟨.refl _ _, rfl⟩ ?_
  rintro i st Ha K hi ⟨ka, rfl⟩ hK
  obtain ⟨xa, hxa, hsh⟩ := hx.kd loose_Mk hWx ka
  have hsl : xa.length = xm.length := by have := congrArg List.length hsh; simpa using this
  try simp only [sv_cons, sv_cons1, sc_cons, sc_cons1, asB_bool, ifB_true, ifB_false, un_not, bin_lss, bin_leq, bin_gtr, bin_geq, bin_eql, bin_neq, bin_add, bin_sub, bin_mul, ok_int, ok_bool, ok_slice, ok_str, ok_ptr, ok_map, ok_func, ok_iface, ok_nil, List.all_cons, List.all_nil, Bool.and_true, Bool.true_and, seg, setSeg, List.drop_succ_cons, List.drop_zero, List.take_succ_cons, List.take_zero, List.cons_append, List.nil_append, List.append_nil, List.length_cons, List.length_nil, List.drop_nil, List.size_toArray, Nat.reduceAdd, Nat.reduceLeDiff, Nat.reduceBEq, Nat.zero_add, Nat.le_refl, decide_true, mkV, List.headD_cons, cellsV, w_fldV, w_ext, w_fldP, List.getElem?_toArray, List.getElem?_cons_zero, List.getElem?_cons_succ, beq_self_eq_true, selV, hx.okcv]
  refine hxa.len ?_
  try simp only [sv_cons, sv_cons1, sc_cons, sc_cons1, asB_bool, ifB_true, ifB_false, un_not, bin_lss, bin_leq, bin_gtr, bin_geq, bin_eql, bin_neq, bin_add, bin_sub, bin_mul, ok_int, ok_bool, ok_slice, ok_str, ok_ptr, ok_map, ok_func, ok_iface, ok_nil, List.all_cons, List.all_nil, Bool.and_true, Bool.true_and, seg, setSeg, List.drop_succ_cons, List.drop_zero, List.take_succ_cons, List.take_zero, List.cons_append, List.nil_append, List.append_nil, List.length_cons, List.length_nil, List.drop_nil, List.size_toArray, Nat.reduceAdd, Nat.reduceLeDiff, Nat.reduceBEq, Nat.zero_add, Nat.le_refl, decide_true, mkV, List.headD_cons, cellsV, w_fldV, w_ext, w_fldP, List.getElem?_toArray, List.getElem?_cons_zero, List.getElem?_cons_succ, beq_self_eq_true, selV]
  refine ifD_of (fun c2 => ?_) (fun c2 => ?_)
  · have hlt : i < xa.length := by omega
    refine hxa.at rfl (List.getElem?_eq_getElem hlt) fun p1 cs hp1 hr => ?_
    obtain ⟨rfl, _⟩ := hr
    refine hp1.fld1 (by simp) fun p2 hp2 => hp2.storeK (hWx.kd ka) (by decide) fun Hb kb => ?_
    try simp only [sv_cons, sv_cons1, sc_cons, sc_cons1, asB_bool, ifB_true, ifB_false, un_not, bin_lss, bin_leq, bin_gtr, bin_geq, bin_eql, bin_neq, bin_add, bin_sub, bin_mul, ok_int, ok_bool, ok_slice, ok_str, ok_ptr, ok_map, ok_func, ok_iface, ok_nil, List.all_cons, List.all_nil, Bool.and_true, Bool.true_and, seg, setSeg, List.drop_succ_cons, List.drop_zero, List.take_succ_cons, List.take_zero, List.cons_append, List.nil_append, List.append_nil, List.length_cons, List.length_nil, List.drop_nil, List.size_toArray, Nat.reduceAdd, Nat.reduceLeDiff, Nat.reduceBEq, Nat.zero_add, Nat.le_refl, decide_true, mkV, List.headD_cons, cellsV, w_fldV, w_ext, w_fldP, List.getElem?_toArray, List.getElem?_cons_zero, List.getElem?_cons_succ, beq_self_eq_true, selV]
    rw [wrap_i64 (by unfold i64; omega)]
    exact hK _ _ (by omega) ⟨ka.trans kb, by simp⟩
  have hpa := hp.up (frx ka) fun y hy _ => ⟨by rw [← hB] at hy; omega, hy⟩
  have hWpa : Wbl Ap Ha := hWp.fr (frx ka) fun y hy => by
    rw [← hB] at hy
    have := g914.size
    have := g15.size
    omega
  refine loop_up pm.length (fun i st H' => Kd Ap Ha H' ∧ st = [[.int .i64 (i : Int)]]) ⟨.refl _ _, rfl⟩ ?_
  rintro j st Hb K2 hj ⟨kb, rfl⟩ hK2
  obtain ⟨pb, hpb, hsh2⟩ := hpa.kd loose_Mk hWpa kb
  have hsl2 : pb.length = pm.length := by have := congrArg List.length hsh2; simpa using this
  try simp only [sv_cons, sv_cons1, sc_cons, sc_cons1, asB_bool, ifB_true, ifB_false, un_not, bin_lss, bin_leq, bin_gtr, bin_geq, bin_eql, bin_neq, bin_add, bin_sub, bin_mul, ok_int, ok_bool, ok_slice, ok_str, ok_ptr, ok_map, ok_func, ok_iface, ok_nil, List.all_cons, List.all_nil, Bool.and_true, Bool.true_and, seg, setSeg, List.drop_succ_cons, List.drop_zero, List.take_succ_cons, List.take_zero, List.cons_append, List.nil_append, List.append_nil, List.length_cons, List.length_nil, List.drop_nil, List.size_toArray, Nat.reduceAdd, Nat.reduceLeDiff, Nat.reduceBEq, Nat.zero_add, Nat.le_refl, decide_true, mkV, List.headD_cons, cellsV, w_fldV, w_ext, w_fldP, List.getElem?_toArray, List.getElem?_cons_zero, List.getElem?_cons_succ, beq_self_eq_true, selV, hp.okcv]
  refine hpb.len ?_
  try simp only [sv_cons, sv_cons1, sc_cons, sc_cons1, asB_bool, ifB_true, ifB_false, un_not, bin_lss, bin_leq, bin_gtr, bin_geq, bin_eql, bin_neq, bin_add, bin_sub, bin_mul, ok_int, ok_bool, ok_slice, ok_str, ok_ptr, ok_map, ok_func, ok_iface, ok_nil, List.all_cons, List.all_nil, Bool.and_true, Bool.true_and, seg, setSeg, List.drop_succ_cons, List.drop_zero, List.take_succ_cons, List.take_zero, List.cons_append, List.nil_append, List.append_nil, List.length_cons, List.length_nil, List.drop_nil, List.size_toArray, Nat.reduceAdd, Nat.reduceLeDiff, Nat.reduceBEq, Nat.zero_add, Nat.le_refl, decide_true, mkV, List.headD_cons, cellsV, w_fldV, w_ext, w_fldP, List.getElem?_toArray, List.getElem?_cons_zero, List.getElem?_cons_succ, beq_self_eq_true, selV]
  refine ifD_of (fun c3 => ?_) (fun c3 => ?_)
  · have hlt : j < pb.length := by omega
    refine hpb.at rfl (List.getElem?_eq_getElem hlt) fun p1 cs hp1 hr => ?_
    obtain ⟨rfl, _⟩ := hr
    refine hp1.fld1 (by simp) fun p2 hp2 => hp2.storeK (hWpa.kd kb) (by decide) fun Hc kc => ?_
    try simp only [sv_cons, sv_cons1, sc_cons, sc_cons1, asB_bool, ifB_true, ifB_false, un_not, bin_lss, bin_leq, bin_gtr, bin_geq, bin_eql, bin_neq, bin_add, bin_sub, bin_mul, ok_int, ok_bool, ok_slice, ok_str, ok_ptr, ok_map, ok_func, ok_iface, ok_nil, List.all_cons, List.all_nil, Bool.and_true, Bool.true_and, seg, setSeg, List.drop_succ_cons, List.drop_zero, List.take_succ_cons, List.take_zero, List.cons_append, List.nil_append, List.append_nil, List.length_cons, List.length_nil, List.drop_nil, List.size_toArray, Nat.reduceAdd, Nat.reduceLeDiff, Nat.reduceBEq, Nat.zero_add, Nat.le_refl, decide_true, mkV, List.headD_cons, cellsV, w_fldV, w_ext, w_fldP, List.getElem?_toArray, List.getElem?_cons_zero, List.getElem?_cons_succ, beq_self_eq_true, selV]
    rw [wrap_i64 (by unfold i64; omega)]
    exact hK2 _ _ (by omega) ⟨kb.trans kc, by simp⟩
  have fab : Fr (fun y => y < H4.size) H15 Hb := (frx ka).trans (frp kb) fun y _ hy => ⟨.inl hy, by have := g5.size; omega⟩
  have gb : G H Hb := g.then fab fun y hy => by omega
  have hob := ho15.up fab fun y hy _ => ⟨hy, hy⟩
  refine join_of (fun s H' => s = [[.bool true]] ∧ G H H') (fun K3 hK3 => ?_) (fun s H' h => by obtain ⟨rfl, g'⟩ := h; exact hQ _ g')
  try simp only [sv_cons, sv_cons1, sc_cons, sc_cons1, asB_bool, ifB_true, ifB_false, un_not, bin_lss, bin_leq, bin_gtr, bin_geq, bin_eql, bin_neq, bin_add, bin_sub, bin_mul, ok_int, ok_bool, ok_slice, ok_str, ok_ptr, ok_map, ok_func, ok_iface, ok_nil, List.all_cons, List.all_nil, Bool.and_true, Bool.true_and, seg, setSeg, List.drop_succ_cons, List.drop_zero, List.take_succ_cons, List.take_zero, List.cons_append, List.nil_append, List.append_nil, List.length_cons, List.length_nil, List.drop_nil, List.size_toArray, Nat.reduceAdd, Nat.reduceLeDiff, Nat.reduceBEq, Nat.zero_add, Nat.le_refl, decide_true, mkV, List.headD_cons, cellsV, w_fldV, w_ext, w_fldP, List.getElem?_toArray, List.getElem?_cons_zero, List.getElem?_cons_succ, beq_self_eq_true, selV, ho.okcv]
  refine c_ref06_Same (f := f) (g := f) hob (hv.g gb) hl fun Hc gc => ?_
  rw [decide_eq_true rfl]
  exact hK3 _ _ ⟨rfl, gb.trans gc⟩

end Go.Proofs.YtioaanmeooonfaaDoor
