/- The law 'TokenSeals': true for every input; the input reads as it did. -/
import Derived.Test.YtlmpjhbfgakgdaaDoorConTok
import Derived.Test.YtlmpjhbfgakgdaaDoorMdOpen4
import Derived.Test.YtlmpjhbfgakgdaaDoorRows
import Derived.Test.YtlmpjhbfgakgdaaDoorCards
import Derived.Test.YtlmpjhbfgakgdaaDoorTie
import Derived.Handed
import Derived.LaidHandle
import Derived.LaidLaws
import Derived.SevenTiedAt
import Derived.Lib.LaidTab
namespace Go.Proofs.YtlmpjhbfgakgdaaDoor.tokenSeals
open Go.ChangeShapes Go.WideShapes Go.ChangeAt Go.RowKit Go.Ab Go.Md
set_option linter.unusedVariables false
set_option linter.unusedSimpArgs false

theorem own : ownKnob Tryd.prog.godebug = none := by kernel_rfl
theorem laidOut : laidOutB Tryd.prog = true := by kernel_rfl

theorem gTab : Tryd.prog.globalNamed "thimblerig/sha.k" = some 1 := by kernel_rfl
theorem gTabType : (Tryd.prog.globals[1]?).map (·.type) = some 145 := by kernel_rfl
theorem cellsT : Tryd.prog.cellsOf 145 = 64 := by kernel_rfl
theorem cellsE : Tryd.prog.cellsOf 96 = 1 := by kernel_rfl
theorem laidIs : Rows.tokenSealsRow.laid = [("thimblerig/sha.k", Lib.tabData .u32 (kW.map fun x => (x.toNat : Int)))] := by kernel_rfl

/-- What the row's list gives: the table's cells. -/
theorem table {W : World} (h : laidMetH Tryd.prog Rows.tokenSealsRow.laid W) : Lib.TabIs Tryd.prog W "thimblerig/sha.k" .u32 (kW.map fun x => (x.toNat : Int)) := by
  rw [laidIs] at h
  exact Lib.tabIs_of_head (rest := []) gTab gTabType Tryd.underlying145 Tryd.underlying96 cellsE cellsT h
theorem fact {W : World} (h : laidMetH Tryd.prog Rows.tokenSealsRow.laid W) : KT W.heap := by
  have h2 := tab_cells (table h) gTab
  have e1 : ((kW.map fun x => (x.toNat : Int))).length = 64 := by kernel_rfl
  have e2 : (((kW.map fun x => (x.toNat : Int))).map fun z => Value.int .u32 z) = (kW.map wv) := by kernel_rfl
  rw [e1, e2] at h2
  exact h2

/-- A world for the witness: the settled one, the table laid. -/
noncomputable def laidWorld (os : Os) : World :=
  { World.holding Tryd.prog os ⟨#[], #[], []⟩ with heap := (World.holding Tryd.prog os ⟨#[], #[], []⟩).heap.modify 1 fun
      | .cells _ t frozen => .cells ((kW.map wv)).toArray t frozen
      | o => o }
theorem laid_met (os : Os) (args : Array Value) : laidMet Tryd.prog Rows.tokenSealsRow.laid ((laidWorld os).forCall (fun _ _ => 0) ⟨#[], args, []⟩).memory :=
  laidMet_of_run' 8 (by kernel_rfl) (by kernel_rfl)

set_option maxRecDepth 100000 in
theorem lifted (os : Os) (started : os.Started) (H : Type) (enc : TypeId × Value → H) :
    ReturnsInHanded {} Tryd.checked os 3 .any (fun w args => (Rows.tokenSealsSpec.pre enc Tryd.prog Tryd.f3 [] false w args ∧ laidMetH Tryd.prog Rows.tokenSealsRow.laid w) ∧ sizedMet enc Tryd.prog Tryd.f3 (OpenSpec.ofChange Rows.tokenSealsSpec) false w args)
      (Rows.tokenSealsSpec.post enc Tryd.prog Tryd.f3 false true false false) := by
  refine returnsInHanded_of_change_and (C := Tryd.checked) (X := fun w _ => laidMetH Tryd.prog Rows.tokenSealsRow.laid w) (fun _ _ _ hh h => h.of_heap hh) own started (by kernel_rfl) Tryd.func3
    (ChangeSpec.witness_at (enc := enc) (C := Tryd.checked) (os := os) (X := fun w _ => laidMetH Tryd.prog Rows.tokenSealsRow.laid w) false (laidWorld os) #[.agg #[(.int .i64 0), (.int .i64 0), (.int .i64 0), (.int .i64 0), (.int .i64 0), (.int .i64 0), (.int .i64 0), (.int .i64 0), (.int .i64 0)], .agg #[(.int .u8 0), (.int .u8 0), (.int .u8 0), (.int .u8 0), (.int .u8 0), (.int .u8 0), (.int .u8 0), (.int .u8 0), (.int .u8 0), (.int .u8 0), (.int .u8 0), (.int .u8 0), (.int .u8 0), (.int .u8 0), (.int .u8 0), (.int .u8 0), (.int .u8 0), (.int .u8 0), (.int .u8 0), (.int .u8 0), (.int .u8 0), (.int .u8 0), (.int .u8 0), (.int .u8 0), (.int .u8 0), (.int .u8 0), (.int .u8 0), (.int .u8 0), (.int .u8 0), (.int .u8 0), (.int .u8 0), (.int .u8 0)], .agg #[(.slice none 0 0), (.slice none 0 0), (.int .u64 0), (.int .u64 0)]] 8 rfl (by kernel_rfl) (by kernel_rfl) (by kernel_rfl) (by kernel_rfl) (by kernel_rfl) (laid_met os _)) ?_
  intro W base args ds gs before hval0 hW _ hsz hL _
  have hg := fact hL
  have hval : ∀ (j : Nat) t v, Tryd.f3.params[j]? = some t → args[j]? = some v → Value.okWide Tryd.prog W .any base t v := hval0
  have hW' := hW
  obtain ⟨p, q, hA0, hV, rfl, _, _⟩ := hW
  have hA : DataW.TrodAll enc Tryd.prog W 0 (fun _ => true) true Tryd.f3.params.toList args.toList ds p := hA0
  rw [Tryd.params3] at hA hval
  obtain ⟨rfl, rfl⟩ := trodVars_none hV
  have hAll := hA
  obtain ⟨v0, vs0, d0, ds0, p0, q0, e0, g0, t0, hA, r0⟩ := trodAll_cons_inv hA
  obtain ⟨v1, vs1, d1, ds1, p1, q1, e1, g1, t1, hA, r1⟩ := trodAll_cons_inv hA
  obtain ⟨v2, vs2, d2, ds2, p2, q2, e2, g2, t2, hA, r2⟩ := trodAll_cons_inv hA
  obtain ⟨en, gn, rn⟩ := trodAll_nil_inv hA
  subst en gn rn
  subst e2 g2 r2 e1 g1 r1
  subst g0 r0
  have hargs : args = #[v0, v1, v2] := Array.ext' (by rw [e0])
  subst hargs
  have z0 := weights_at hsz (j := 0) (t := 23) (d := d0) rfl rfl
  obtain ⟨cs0, hv0⟩ := okWide_base Tryd.underlying23 (hval 0 23 v0 rfl rfl)
  obtain ⟨x0, hx0, k0⟩ := Opens.arg (K := _) (opens_Cfg (opens_struct Tryd.underlying23 (by kernel_rfl) (opensF_cons rfl (by kernel_rfl) (opens_int Tryd.underlying3) (opensF_cons rfl (by kernel_rfl) (opens_int Tryd.underlying3) (opensF_cons rfl (by kernel_rfl) (opens_int Tryd.underlying3) (opensF_cons rfl (by kernel_rfl) (opens_int Tryd.underlying3) (opensF_cons rfl (by kernel_rfl) (opens_int Tryd.underlying3) (opensF_cons rfl (by kernel_rfl) (opens_int Tryd.underlying3) (opensF_cons rfl (by kernel_rfl) (opens_int Tryd.underlying3) (opensF_cons rfl (by kernel_rfl) (opens_int Tryd.underlying3) (opensF_cons rfl (by kernel_rfl) (opens_int Tryd.underlying3) (opensF_nil _)))))))))))) t0 z0
  have z1 := weights_at hsz (j := 1) (t := 25) (d := d1) rfl rfl
  obtain ⟨cs1, hv1⟩ := okWide_arr Tryd.underlying25 (hval 1 25 v1 rfl rfl)
  obtain ⟨x1, hx1, k1⟩ := Opens.arg (K := _) (opens_arr8 Tryd.underlying25 Tryd.underlying5 (by kernel_rfl) (by kernel_rfl)) t1 z1
  have z2 := weights_at hsz (j := 2) (t := 30) (d := d2) rfl rfl
  obtain ⟨cs2, hv2⟩ := okWide_base Tryd.underlying30 (hval 2 30 v2 rfl rfl)
  obtain ⟨x2, hx2, k2⟩ := Opens.arg (K := _) (opens_Sto (opens_struct Tryd.underlying30 (by kernel_rfl) (opensF_cons rfl (by kernel_rfl) (opens_slice Tryd.underlying26 (by kernel_rfl) (by decide) (opens_Orm (opens_struct Tryd.underlying52 (by kernel_rfl) (opensF_cons rfl (by kernel_rfl) (opens_arr8 Tryd.underlying49 Tryd.underlying5 (by kernel_rfl) (by kernel_rfl)) (opensF_cons rfl (by kernel_rfl) (opens_slice Tryd.underlying50 (by kernel_rfl) (by decide) (opens_Blk (opens_struct Tryd.underlying54 (by kernel_rfl) (opensF_cons rfl (by kernel_rfl) (opens_int Tryd.underlying3) (opensF_cons rfl (by kernel_rfl) (opens_int Tryd.underlying3) (opensF_cons rfl (by kernel_rfl) (opens_slice Tryd.underlying41 (by kernel_rfl) (by decide) (opens_u8 Tryd.underlying5)) (opensF_nil _))))))) (opensF_nil _)))))) (opensF_cons rfl (by kernel_rfl) (opens_slice Tryd.underlying27 (by kernel_rfl) (by decide) (opens_int Tryd.underlying3)) (opensF_cons rfl (by kernel_rfl) (opens_int Tryd.underlying28) (opensF_cons rfl (by kernel_rfl) (opens_int Tryd.underlying28) (opensF_nil _))))))) t2 z2
  simp only [List.append_nil] at hW'
  have hlt : ∀ x ∈ p0 ++ (p1 ++ (p2 ++ [])), x.block < W.heap.size := fun x hx => by have := hW'.lt x (by simpa using hx); simpa using this
  subst hv0
  have e0 : cs0 = (cCfg x0).toArray := Array.ext' hx0.1
  subst e0
  subst hv1
  have e1 : cs1 = (x1.map b8).toArray := Array.ext' hx1.1
  subst e1
  subst hv2
  obtain ⟨u2, m2, e2, hs2, hm2⟩ := hx2
  have e2 : cs2 = #[u2, m2, .int .u64 (x2.next : Int), .int .u64 (x2.ticks : Int)] := Array.ext' e2
  subst e2
  have := calls_of (c_TokenSeals (c := x0) (kk := x1) (s := x2) (lv := u2) (mv := m2) hg hx1.2 ⟨hs2, hm2⟩ fun H' g => ⟨rfl, g.toSame⟩)
  refine this.mono fun e W' ⟨he, ho⟩ => ?_
  subst he
  have harg := Old.trodAll laidOut (by kernel_rfl) hAll ho hlt
  refine ⟨_, rfl, _, _, _, [], _, [], hW', ?_, harg, rfl, ho.frame _, fun h => by cases h⟩
  exact trodAll_mk1 (shut_bool Tryd.underlying4 _)

theorem proved : Rows.TokenSealsSaid :=
  OpenClaim.holds_of_wide 3 Tryd.f3 rfl rfl rfl rfl rfl rfl rfl ⟨rfl, rfl, rfl, rfl, rfl⟩ rfl rfl rfl rfl rfl (by kernel_rfl) Tryd.func3 (by kernel_rfl)
    (of_decide_eq_true (by kernel_rfl)) (by unfold Func.isWrapper; first | (rw [if_pos (by decide +kernel)]; kernel_rfl) | (rw [if_neg (by decide +kernel)]; exact ⟨rfl, rfl⟩))
    (fun os started H enc _ => lifted os started H enc)

/-- No parameter wants a stand-in; the program's own looks. -/
theorem plain (f : FuncId) (fn : Func) (hf : Tryd.pinned.checked.prog.funcNamed "thimblerig/thimbleriglaw28.TokenSeals" = some f) (hfn : Tryd.pinned.checked.prog.funcs[f]? = some fn) :
    false = Tryd.pinned.checked.prog.looks [] ∧ ∀ (j : Nat) t, fn.params[j]? = some t → Tryd.pinned.checked.prog.wantsStandIn t = false := by
  obtain rfl : f = 3 := Option.some.inj ((show Tryd.prog.funcNamed "thimblerig/thimbleriglaw28.TokenSeals" = some 3 by kernel_rfl).symm.trans hf) |>.symm
  obtain rfl : fn = Tryd.f3 := (Option.some.inj (Tryd.func3.symm.trans hfn)).symm
  refine ⟨by kernel_rfl, fun j t ht => ?_⟩
  have hm := Array.mem_of_getElem? ht
  rw [Tryd.params3] at hm
  have key : (Tryd.f3.params.all fun t => Tryd.prog.wantsStandIn t == false) = true := by kernel_rfl
  rw [Tryd.params3] at key
  have := Array.all_eq_true_iff_forall_mem.1 key t hm
  exact (show Tryd.prog.wantsStandIn t = false by simpa using this)

theorem card : Rows.TokenSealsCardSaid :=
  Claim7.holds_tied_plain_at .later [] _ _ _ _ proved (fun _ h => by cases h) (by kernel_rfl) (fun _ h => by cases h) tokenSeals_row_tie rfl ⟨rfl, rfl⟩ (by kernel_rfl) rfl plain (by kernel_rfl)

end Go.Proofs.YtlmpjhbfgakgdaaDoor.tokenSeals

