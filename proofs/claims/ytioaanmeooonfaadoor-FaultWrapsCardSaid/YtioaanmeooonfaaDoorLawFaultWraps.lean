/- The law 'FaultWraps': true for every input; the input reads as it did. -/
import Derived.Test.YtioaanmeooonfaaDoorConLaw06
import Derived.Test.YtioaanmeooonfaaDoorMdFault
import Derived.Test.YtioaanmeooonfaaDoorRows
import Derived.Test.YtioaanmeooonfaaDoorCards
import Derived.Test.YtioaanmeooonfaaDoorTie
import Derived.Handed
import Derived.LaidHandle
import Derived.LaidLaws
import Derived.SevenTiedAt
namespace Go.Proofs.YtioaanmeooonfaaDoor.faultWraps
open Go.ChangeShapes Go.WideShapes Go.ChangeAt Go.RowKit Go.Ab Go.Md
set_option linter.unusedVariables false
set_option linter.unusedSimpArgs false

theorem own : ownKnob Tryd.prog.godebug = none := by kernel_rfl
theorem laidOut : laidOutB Tryd.prog = true := by kernel_rfl

theorem et : Tryd.prog.globalNamed "errors.errorType" = some 0 := by kernel_rfl
theorem rt : (Tryd.prog.cutTypes.find? (·.1 == "internal/reflectlite.rtype")).map (·.2) = some 81 := by kernel_rfl
theorem oneRow : ((List.range 126).filter fun t => Tryd.prog.rowNamed t [101, 114, 114, 111, 114]) = [48] := by kernel_rfl
theorem tsize : Tryd.prog.types.size = 126 := by kernel_rfl

/-- What the row's list gives: the variable's one cell. -/
theorem handle_of_laid {W : World} (h : laidMetH Tryd.prog Rows.faultWrapsRow.laid W) : W.cell? ⟨0, 0, none⟩ = some (rtV 48) := by
  have h' : laidMet Tryd.prog [] W ∧ handlesMet Tryd.prog Rows.faultWrapsRow.laid W := h
  obtain ⟨name, u, ty, e1, e2, e3, e4, e5⟩ := h'.2 _ (List.mem_singleton.2 rfl)
  have en : name = [101, 114, 114, 111, 114] := (Option.some.inj e1).symm
  subst en
  obtain rfl := Option.some.inj (rt.symm.trans e2)
  have hm : ty ∈ (List.range 126).filter fun t => Tryd.prog.rowNamed t [101, 114, 114, 111, 114] := List.mem_filter.2 ⟨List.mem_range.2 (by rw [← tsize]; exact e3), e4⟩
  rw [oneRow] at hm
  obtain rfl := List.mem_singleton.1 hm
  have hh : typeHandle Tryd.prog 48 = .pointer (some ⟨1, 48, none⟩) := by kernel_rfl
  rw [hh] at e5
  simpa using World.var?_cell et e5 0
theorem atc_of_cell {W : World} {v : Value} (h : W.cell? ⟨0, 0, none⟩ = some v) : AtC W.heap (fun _ => True) (.pointer (some ⟨0, 0, none⟩)) [v] := by
  refine ⟨0, 0, rfl, trivial, ?_⟩
  unfold World.cell? at h
  unfold cellsAt
  simp only at h
  split at h
  · rename_i c t f hc
    simp only [Option.isSome_none, Bool.false_eq_true, if_false] at h
    obtain ⟨hlt, he⟩ := Array.getElem?_eq_some_iff.1 h
    rw [hc]
    simp only [List.length_cons, List.length_nil]
    rw [if_pos (by omega)]
    congr 1
    unfold seg
    rw [List.drop_zero]
    obtain ⟨l⟩ := c
    cases l with
    | nil => simp at hlt
    | cons x r => simp at he; subst he; rfl
  · cases h

/-- A world for the witness: the settled one, the variable's cell laid. -/
noncomputable def laidWorld (os : Os) : World :=
  { World.holding Tryd.prog os ⟨#[], #[], []⟩ with heap := (World.holding Tryd.prog os ⟨#[], #[], []⟩).heap.modify 0 fun
      | .cells _ t frozen => .cells #[rtV 48] t frozen
      | o => o }
theorem laid_met (os : Os) (args : Array Value) : laidMetH Tryd.prog Rows.faultWrapsRow.laid ((laidWorld os).forCall (fun _ _ => 0) ⟨#[], args, []⟩).memory :=
  laidMetH_of_parts (laidMet_nil _ _) (by kernel_rfl)

set_option maxRecDepth 100000 in
theorem lifted (os : Os) (started : os.Started) (H : Type) (enc : TypeId × Value → H) :
    ReturnsInHanded {} Tryd.checked os 3 .any (fun w args => (Rows.faultWrapsSpec.pre enc Tryd.prog Tryd.f3 [] false w args ∧ laidMetH Tryd.prog Rows.faultWrapsRow.laid w) ∧ sizedMet enc Tryd.prog Tryd.f3 (OpenSpec.ofChange Rows.faultWrapsSpec) false w args)
      (Rows.faultWrapsSpec.post enc Tryd.prog Tryd.f3 false true false false) := by
  refine returnsInHanded_of_change_and (C := Tryd.checked) (X := fun w _ => laidMetH Tryd.prog Rows.faultWrapsRow.laid w) (fun _ _ _ hh h => h.of_heap hh) own started (by kernel_rfl) Tryd.func3
    (ChangeSpec.witness_at (enc := enc) (C := Tryd.checked) (os := os) (X := fun w _ => laidMetH Tryd.prog Rows.faultWrapsRow.laid w) false (laidWorld os) #[.agg #[(.int .i64 0), (.slice none 0 0)], .agg #[(.int .i64 0), (.int .i64 0)]] 8 rfl (by kernel_rfl) (by kernel_rfl) (by kernel_rfl) (by kernel_rfl) (by kernel_rfl) (laid_met os _)) ?_
  intro W base args ds gs before hval0 hW _ hsz hL _
  have hg := atc_of_cell (handle_of_laid hL)
  have hval : ∀ (j : Nat) t v, Tryd.f3.params[j]? = some t → args[j]? = some v → Value.okWide Tryd.prog W .any base t v := hval0
  have hW' := hW
  obtain ⟨p, q, hA0, hV, rfl, _, _⟩ := hW
  have hA : DataW.TrodAll enc Tryd.prog W 0 (fun _ => true) true Tryd.f3.params.toList args.toList ds p := hA0
  rw [Tryd.params3] at hA hval
  obtain ⟨rfl, rfl⟩ := trodVars_none hV
  have hAll := hA
  obtain ⟨v0, vs0, d0, ds0, p0, q0, e0, g0, t0, hA, r0⟩ := trodAll_cons_inv hA
  obtain ⟨v1, vs1, d1, ds1, p1, q1, e1, g1, t1, hA, r1⟩ := trodAll_cons_inv hA
  obtain ⟨en, gn, rn⟩ := trodAll_nil_inv hA
  subst en gn rn
  subst e1 g1 r1
  subst g0 r0
  have hargs : args = #[v0, v1] := Array.ext' (by rw [e0])
  subst hargs
  have z0 := weights_at hsz (j := 0) (t := 25) (d := d0) rfl rfl
  obtain ⟨cs0, hv0⟩ := okWide_base Tryd.underlying25 (hval 0 25 v0 rfl rfl)
  obtain ⟨x0, hx0, k0⟩ := Opens.arg (K := _) (opens_Flt (opens_struct Tryd.underlying25 (by kernel_rfl) (opensF_cons rfl (by kernel_rfl) (opens_int Tryd.underlying22) (opensF_cons rfl (by kernel_rfl) (opens_slice Tryd.underlying23 (by kernel_rfl) (by decide) (opens_Mk (opens_struct Tryd.underlying27 (by kernel_rfl) (opensF_cons rfl (by kernel_rfl) (opens_int Tryd.underlying3) (opensF_cons rfl (by kernel_rfl) (opens_int Tryd.underlying3) (opensF_nil _)))))) (opensF_nil _))))) t0 z0
  have z1 := weights_at hsz (j := 1) (t := 27) (d := d1) rfl rfl
  obtain ⟨cs1, hv1⟩ := okWide_base Tryd.underlying27 (hval 1 27 v1 rfl rfl)
  obtain ⟨x1, hx1, k1⟩ := Opens.arg (K := _) (opens_Mk (opens_struct Tryd.underlying27 (by kernel_rfl) (opensF_cons rfl (by kernel_rfl) (opens_int Tryd.underlying3) (opensF_cons rfl (by kernel_rfl) (opens_int Tryd.underlying3) (opensF_nil _))))) t1 z1
  simp only [List.append_nil] at hW'
  have hlt : ∀ x ∈ p0 ++ (p1 ++ []), x.block < W.heap.size := fun x hx => by have := hW'.lt x (by simpa using hx); simpa using this
  subst hv0
  obtain ⟨u0, e0, hs0⟩ := hx0
  have e0 : cs0 = #[.int .i64 x0.code, u0] := Array.ext' e0
  subst e0
  subst hv1
  have e1 : cs1 = #[.int .i64 x1.level, .int .i64 x1.place] := Array.ext' hx1.1
  subst e1
  have := calls_of (c_FaultWraps (f := x0) (m := x1) hs0 hx1.2 hg fun H' g => ⟨rfl, g.toSame⟩)
  refine this.mono fun e W' ⟨he, ho⟩ => ?_
  subst he
  have harg := Old.trodAll laidOut (by kernel_rfl) hAll ho hlt
  refine ⟨_, rfl, _, _, _, [], _, [], hW', ?_, harg, rfl, ho.frame _, fun h => by cases h⟩
  exact trodAll_mk1 (shut_bool Tryd.underlying4 _)

theorem proved : Rows.FaultWrapsSaid :=
  OpenClaim.holds_of_wide 3 Tryd.f3 rfl rfl rfl rfl rfl rfl rfl ⟨rfl, rfl, rfl, rfl, rfl⟩ rfl rfl rfl rfl rfl (by kernel_rfl) Tryd.func3 (by kernel_rfl)
    (of_decide_eq_true (by kernel_rfl)) (by unfold Func.isWrapper; first | (rw [if_pos (by decide +kernel)]; kernel_rfl) | (rw [if_neg (by decide +kernel)]; exact ⟨rfl, rfl⟩))
    (fun os started H enc _ => lifted os started H enc)

/-- No parameter wants a stand-in; the program's own looks are off. -/
theorem plain (f : FuncId) (fn : Func) (hf : Tryd.pinned.checked.prog.funcNamed "thimblerig/thimbleriglaw06.FaultWraps" = some f) (hfn : Tryd.pinned.checked.prog.funcs[f]? = some fn) :
    true = Tryd.pinned.checked.prog.looks [] ∧ ∀ (j : Nat) t, fn.params[j]? = some t → Tryd.pinned.checked.prog.wantsStandIn t = false := by
  obtain rfl : f = 3 := Option.some.inj ((show Tryd.prog.funcNamed "thimblerig/thimbleriglaw06.FaultWraps" = some 3 by kernel_rfl).symm.trans hf) |>.symm
  obtain rfl : fn = Tryd.f3 := (Option.some.inj (Tryd.func3.symm.trans hfn)).symm
  refine ⟨by kernel_rfl, fun j t ht => ?_⟩
  have hm := Array.mem_of_getElem? ht
  rw [Tryd.params3] at hm
  have key : (Tryd.f3.params.all fun t => Tryd.prog.wantsStandIn t == false) = true := by kernel_rfl
  rw [Tryd.params3] at key
  have := Array.all_eq_true_iff_forall_mem.1 key t hm
  exact (show Tryd.prog.wantsStandIn t = false by simpa using this)

theorem card : Rows.FaultWrapsCardSaid :=
  Claim7.holds_tied_plain_at .later [] _ _ _ _ proved (fun _ h => by cases h) (by kernel_rfl) (fun _ h => by cases h) faultWraps_row_tie rfl ⟨rfl, rfl⟩ (by kernel_rfl) rfl plain (by kernel_rfl)

end Go.Proofs.YtioaanmeooonfaaDoor.faultWraps

