/- The law 'DevBack': true for every input; the input reads as it did. -/
import Derived.Test.YtikebhnnmnlgaaaConLaw12e
import Derived.Test.YtikebhnnmnlgaaaMdOpen
import Derived.Test.YtikebhnnmnlgaaaRows
namespace Go.Proofs.Ytikebhnnmnlgaaa.devBack
open Go.ChangeShapes Go.WideShapes Go.ChangeAt Go.RowKit Go.Ab Go.Md
set_option linter.unusedVariables false
set_option linter.unusedSimpArgs false

theorem own : ownKnob Try.prog.godebug = none := by kernel_rfl
theorem laidOut : laidOutB Try.prog = true := by kernel_rfl

set_option maxRecDepth 100000 in
theorem lifted (os : Os) (started : os.Started) (H : Type) (enc : TypeId × Value → H) :
    ReturnsInHanded {} Try.checked os 8 .any (Rows.devBackSpec.pre6 enc Try.prog Try.f8 Rows.devBackRow.domain false) (Rows.devBackSpec.post enc Try.prog Try.f8 false true false false) := by
  refine returnsInHanded_of_change_sized (C := Try.checked) own started (by kernel_rfl) Try.func8
    (ChangeSpec.witness6 (enc := enc) (C := Try.checked) false ⟨#[], #[.agg #[(.int .i64 0), (.int .i64 0), (.int .i64 0), (.int .i64 0), (.int .i64 0), (.int .i64 0), (.int .i64 0), (.int .i64 0), (.int .i64 0)], .agg #[(.slice none 0 0)], .int .i64 0, .slice none 0 0, .slice none 0 0, .int .i64 0, .int .i64 0], []⟩ 8 (by kernel_rfl) (by kernel_rfl) (by kernel_rfl) (by kernel_rfl)) ?_
  intro W base args ds gs before hval0 hW _ hsz _
  have hval : ∀ (j : Nat) t v, Try.f8.params[j]? = some t → args[j]? = some v → Value.okWide Try.prog W .any base t v := hval0
  have hW' := hW
  obtain ⟨p, q, hA0, hV, rfl, _, _⟩ := hW
  have hA : DataW.TrodAll enc Try.prog W 0 (fun _ => true) true Try.f8.params.toList args.toList ds p := hA0
  rw [Try.params8] at hA hval
  obtain ⟨rfl, rfl⟩ := trodVars_none hV
  have hAll := hA
  obtain ⟨v0, vs0, d0, ds0, p0, q0, e0, g0, t0, hA, r0⟩ := trodAll_cons_inv hA
  obtain ⟨v1, vs1, d1, ds1, p1, q1, e1, g1, t1, hA, r1⟩ := trodAll_cons_inv hA
  obtain ⟨v2, vs2, d2, ds2, p2, q2, e2, g2, t2, hA, r2⟩ := trodAll_cons_inv hA
  obtain ⟨v3, vs3, d3, ds3, p3, q3, e3, g3, t3, hA, r3⟩ := trodAll_cons_inv hA
  obtain ⟨v4, vs4, d4, ds4, p4, q4, e4, g4, t4, hA, r4⟩ := trodAll_cons_inv hA
  obtain ⟨v5, vs5, d5, ds5, p5, q5, e5, g5, t5, hA, r5⟩ := trodAll_cons_inv hA
  obtain ⟨v6, vs6, d6, ds6, p6, q6, e6, g6, t6, hA, r6⟩ := trodAll_cons_inv hA
  obtain ⟨en, gn, rn⟩ := trodAll_nil_inv hA
  subst en gn rn
  subst e6 g6 r6 e5 g5 r5 e4 g4 r4 e3 g3 r3 e2 g2 r2 e1 g1 r1
  subst g0 r0
  have hargs : args = #[v0, v1, v2, v3, v4, v5, v6] := Array.ext' (by rw [e0])
  subst hargs
  have z0 := weights_at hsz (j := 0) (t := 34) (d := d0) rfl rfl
  obtain ⟨cs0, hv0⟩ := okWide_base Try.underlying34 (hval 0 34 v0 rfl rfl)
  obtain ⟨x0, hx0, k0⟩ := Opens.arg (K := _) (opens_Cfg (opens_struct Try.underlying34 (by kernel_rfl) (opensF_cons rfl (by kernel_rfl) (opens_int Try.underlying3) (opensF_cons rfl (by kernel_rfl) (opens_int Try.underlying3) (opensF_cons rfl (by kernel_rfl) (opens_int Try.underlying3) (opensF_cons rfl (by kernel_rfl) (opens_int Try.underlying3) (opensF_cons rfl (by kernel_rfl) (opens_int Try.underlying3) (opensF_cons rfl (by kernel_rfl) (opens_int Try.underlying3) (opensF_cons rfl (by kernel_rfl) (opens_int Try.underlying3) (opensF_cons rfl (by kernel_rfl) (opens_int Try.underlying3) (opensF_cons rfl (by kernel_rfl) (opens_int Try.underlying3) (opensF_nil _)))))))))))) t0 z0
  have z1 := weights_at hsz (j := 1) (t := 37) (d := d1) rfl rfl
  obtain ⟨cs1, hv1⟩ := okWide_base Try.underlying37 (hval 1 37 v1 rfl rfl)
  obtain ⟨x1, hx1, k1⟩ := Opens.arg (K := _) (opens_Dev (opens_struct Try.underlying37 (by kernel_rfl) (opensF_cons rfl (by kernel_rfl) (opens_slice Try.underlying35 (by kernel_rfl) (by decide) (opens_slice Try.underlying65 (by kernel_rfl) (by decide) (opens_slice Try.underlying77 (by kernel_rfl) (by decide) (opens_u8 Try.underlying5)))) (opensF_nil _)))) t1 z1
  have z2 := weights_at hsz (j := 2) (t := 3) (d := d2) rfl rfl
  obtain ⟨n2, hv2⟩ := okWide_int Try.underlying3 (hval 2 3 v2 rfl rfl)
  obtain ⟨x2, hx2, k2⟩ := Opens.arg (K := _) (opens_int Try.underlying3) t2 z2
  have z3 := weights_at hsz (j := 3) (t := 22) (d := d3) rfl rfl
  obtain ⟨a3, l3, c3, hv3⟩ := okWide_slice Try.underlying22 (hval 3 22 v3 rfl rfl)
  obtain ⟨x3, hx3, k3⟩ := Opens.arg (K := _) (opens_slice Try.underlying22 (by kernel_rfl) (by decide) (opens_int Try.underlying3)) t3 z3
  have z4 := weights_at hsz (j := 4) (t := 65) (d := d4) rfl rfl
  obtain ⟨a4, l4, c4, hv4⟩ := okWide_slice Try.underlying65 (hval 4 65 v4 rfl rfl)
  obtain ⟨x4, hx4, k4⟩ := Opens.arg (K := _) (opens_slice Try.underlying65 (by kernel_rfl) (by decide) (opens_slice Try.underlying77 (by kernel_rfl) (by decide) (opens_u8 Try.underlying5))) t4 z4
  have z5 := weights_at hsz (j := 5) (t := 3) (d := d5) rfl rfl
  obtain ⟨n5, hv5⟩ := okWide_int Try.underlying3 (hval 5 3 v5 rfl rfl)
  obtain ⟨x5, hx5, k5⟩ := Opens.arg (K := _) (opens_int Try.underlying3) t5 z5
  have z6 := weights_at hsz (j := 6) (t := 3) (d := d6) rfl rfl
  obtain ⟨n6, hv6⟩ := okWide_int Try.underlying3 (hval 6 3 v6 rfl rfl)
  obtain ⟨x6, hx6, k6⟩ := Opens.arg (K := _) (opens_int Try.underlying3) t6 z6
  simp only [List.append_nil] at hW'
  have hlt : ∀ x ∈ p0 ++ (p1 ++ (p2 ++ (p3 ++ (p4 ++ (p5 ++ (p6 ++ [])))))), x.block < W.heap.size := fun x hx => by have := hW'.lt x (by simpa using hx); simpa using this
  subst hv0
  have e0 : cs0 = (cCfg x0).toArray := Array.ext' hx0.1
  subst e0
  subst hv1
  obtain ⟨u1, e1, hs1⟩ := hx1
  have e1 : cs1 = #[u1] := Array.ext' e1
  subst e1
  subst hv2
  obtain ⟨e2, hs2⟩ := hx2
  have e2 : n2 = x2 := by simpa [Value.cells] using e2
  subst e2
  subst hv3
  obtain ⟨w3, e3, hs3⟩ := hx3
  have e3 : Value.slice a3 l3 c3 = w3 := by simpa [Value.cells] using e3
  subst e3
  subst hv4
  obtain ⟨w4, e4, hs4⟩ := hx4
  have e4 : Value.slice a4 l4 c4 = w4 := by simpa [Value.cells] using e4
  subst e4
  subst hv5
  obtain ⟨e5, hs5⟩ := hx5
  have e5 : n5 = x5 := by simpa [Value.cells] using e5
  subst e5
  subst hv6
  obtain ⟨e6, hs6⟩ := hx6
  have e6 : n6 = x6 := by simpa [Value.cells] using e6
  subst e6
  have := calls_of (c_DevBack (c := x0) (level := n2) (m := n5) (n := n6) hs1 hs3 hs4 hs6 fun H' g => ⟨rfl, g.toSame⟩)
  refine this.mono fun e W' ⟨he, ho⟩ => ?_
  subst he
  have harg := Old.trodAll laidOut (by kernel_rfl) hAll ho hlt
  refine ⟨_, rfl, _, _, _, [], _, [], hW', ?_, harg, rfl, ho.frame _, fun h => by cases h⟩
  exact trodAll_mk1 (shut_bool Try.underlying4 _)

theorem proved : Rows.DevBackSaid :=
  OpenClaim.holds_of_wide 8 Try.f8 rfl rfl rfl rfl rfl rfl rfl ⟨rfl, rfl, rfl, rfl, rfl⟩ rfl rfl rfl rfl rfl (by kernel_rfl) Try.func8 (by kernel_rfl)
    (of_decide_eq_true (by kernel_rfl)) (by unfold Func.isWrapper; first | (rw [if_pos (by decide +kernel)]; kernel_rfl) | (rw [if_neg (by decide +kernel)]; exact ⟨rfl, rfl⟩))
    (fun os started H enc _ => lifted os started H enc)

end Go.Proofs.Ytikebhnnmnlgaaa.devBack
