/- The law 'CanonTells': true for every input; the input reads as it did. -/
import Derived.Test.YtlalkgkicccjiaaConLaw22
import Derived.Test.YtlalkgkicccjiaaMdOpen2
import Derived.Test.YtlalkgkicccjiaaRows
namespace Go.Proofs.Ytlalkgkicccjiaa.canonTells
open Go.ChangeShapes Go.WideShapes Go.ChangeAt Go.RowKit Go.Ab Go.Md
set_option linter.unusedVariables false
set_option linter.unusedSimpArgs false

theorem own : ownKnob Try.prog.godebug = none := by kernel_rfl
theorem laidOut : laidOutB Try.prog = true := by kernel_rfl

set_option maxRecDepth 100000 in
theorem lifted (os : Os) (started : os.Started) (H : Type) (enc : TypeId × Value → H) :
    ReturnsInHanded {} Try.checked os 3 .any (Rows.canonTellsSpec.pre6 enc Try.prog Try.f3 Rows.canonTellsRow.domain false) (Rows.canonTellsSpec.post enc Try.prog Try.f3 false true false false) := by
  refine returnsInHanded_of_change_sized (C := Try.checked) own started (by kernel_rfl) Try.func3
    (ChangeSpec.witness6 (enc := enc) (C := Try.checked) false ⟨#[], #[.agg #[(.int .i64 0), (.int .i64 0), (.int .i64 0), (.int .i64 0), (.int .i64 0), (.int .i64 0), (.int .i64 0), (.int .i64 0), (.int .i64 0)], .slice none 0 0, .slice none 0 0, .int .i64 0, .slice none 0 0], []⟩ 8 (by kernel_rfl) (by kernel_rfl) (by kernel_rfl) (by kernel_rfl)) ?_
  intro W base args ds gs before hval0 hW _ hsz _
  have hval : ∀ (j : Nat) t v, Try.f3.params[j]? = some t → args[j]? = some v → Value.okWide Try.prog W .any base t v := hval0
  have hW' := hW
  obtain ⟨p, q, hA0, hV, rfl, _, _⟩ := hW
  have hA : DataW.TrodAll enc Try.prog W 0 (fun _ => true) true Try.f3.params.toList args.toList ds p := hA0
  rw [Try.params3] at hA hval
  obtain ⟨rfl, rfl⟩ := trodVars_none hV
  have hAll := hA
  obtain ⟨v0, vs0, d0, ds0, p0, q0, e0, g0, t0, hA, r0⟩ := trodAll_cons_inv hA
  obtain ⟨v1, vs1, d1, ds1, p1, q1, e1, g1, t1, hA, r1⟩ := trodAll_cons_inv hA
  obtain ⟨v2, vs2, d2, ds2, p2, q2, e2, g2, t2, hA, r2⟩ := trodAll_cons_inv hA
  obtain ⟨v3, vs3, d3, ds3, p3, q3, e3, g3, t3, hA, r3⟩ := trodAll_cons_inv hA
  obtain ⟨v4, vs4, d4, ds4, p4, q4, e4, g4, t4, hA, r4⟩ := trodAll_cons_inv hA
  obtain ⟨en, gn, rn⟩ := trodAll_nil_inv hA
  subst en gn rn
  subst e4 g4 r4 e3 g3 r3 e2 g2 r2 e1 g1 r1
  subst g0 r0
  have hargs : args = #[v0, v1, v2, v3, v4] := Array.ext' (by rw [e0])
  subst hargs
  have z0 := weights_at hsz (j := 0) (t := 23) (d := d0) rfl rfl
  obtain ⟨cs0, hv0⟩ := okWide_base Try.underlying23 (hval 0 23 v0 rfl rfl)
  obtain ⟨x0, hx0, k0⟩ := Opens.arg (K := _) (opens_Cfg (opens_struct Try.underlying23 (by kernel_rfl) (opensF_cons rfl (by kernel_rfl) (opens_int Try.underlying3) (opensF_cons rfl (by kernel_rfl) (opens_int Try.underlying3) (opensF_cons rfl (by kernel_rfl) (opens_int Try.underlying3) (opensF_cons rfl (by kernel_rfl) (opens_int Try.underlying3) (opensF_cons rfl (by kernel_rfl) (opens_int Try.underlying3) (opensF_cons rfl (by kernel_rfl) (opens_int Try.underlying3) (opensF_cons rfl (by kernel_rfl) (opens_int Try.underlying3) (opensF_cons rfl (by kernel_rfl) (opens_int Try.underlying3) (opensF_cons rfl (by kernel_rfl) (opens_int Try.underlying3) (opensF_nil _)))))))))))) t0 z0
  have z1 := weights_at hsz (j := 1) (t := 24) (d := d1) rfl rfl
  obtain ⟨a1, l1, c1, hv1⟩ := okWide_slice Try.underlying24 (hval 1 24 v1 rfl rfl)
  obtain ⟨x1, hx1, k1⟩ := Opens.arg (K := _) (opens_slice Try.underlying24 (by kernel_rfl) (by decide) (opens_slice Try.underlying48 (by kernel_rfl) (by decide) (opens_int Try.underlying99))) t1 z1
  have z2 := weights_at hsz (j := 2) (t := 25) (d := d2) rfl rfl
  obtain ⟨a2, l2, c2, hv2⟩ := okWide_slice Try.underlying25 (hval 2 25 v2 rfl rfl)
  obtain ⟨x2, hx2, k2⟩ := Opens.arg (K := _) (opens_slice Try.underlying25 (by kernel_rfl) (by decide) (opens_slice Try.underlying43 (by kernel_rfl) (by decide) (opens_u8 Try.underlying5))) t2 z2
  have z3 := weights_at hsz (j := 3) (t := 3) (d := d3) rfl rfl
  obtain ⟨n3, hv3⟩ := okWide_int Try.underlying3 (hval 3 3 v3 rfl rfl)
  obtain ⟨x3, hx3, k3⟩ := Opens.arg (K := _) (opens_int Try.underlying3) t3 z3
  have z4 := weights_at hsz (j := 4) (t := 26) (d := d4) rfl rfl
  obtain ⟨a4, l4, c4, hv4⟩ := okWide_slice Try.underlying26 (hval 4 26 v4 rfl rfl)
  obtain ⟨x4, hx4, k4⟩ := Opens.arg (K := _) (opens_slice Try.underlying26 (by kernel_rfl) (by decide) (opens_See (opens_struct Try.underlying45 (by kernel_rfl) (opensF_cons rfl (by kernel_rfl) (opens_int Try.underlying5) (opensF_cons rfl (by kernel_rfl) (opens_int Try.underlying3) (opensF_cons rfl (by kernel_rfl) (opens_int Try.underlying3) (opensF_cons rfl (by kernel_rfl) (opens_slice Try.underlying43 (by kernel_rfl) (by decide) (opens_u8 Try.underlying5)) (opensF_nil _)))))))) t4 z4
  simp only [List.append_nil] at hW'
  have hlt : ∀ x ∈ p0 ++ (p1 ++ (p2 ++ (p3 ++ (p4 ++ [])))), x.block < W.heap.size := fun x hx => by have := hW'.lt x (by simpa using hx); simpa using this
  subst hv0
  have e0 : cs0 = (cCfg x0).toArray := Array.ext' hx0.1
  subst e0
  subst hv1
  obtain ⟨w1, e1, hs1⟩ := hx1
  have e1 : Value.slice a1 l1 c1 = w1 := by simpa [Value.cells] using e1
  subst e1
  subst hv2
  obtain ⟨w2, e2, hs2⟩ := hx2
  have e2 : Value.slice a2 l2 c2 = w2 := by simpa [Value.cells] using e2
  subst e2
  subst hv3
  obtain ⟨e3, hs3⟩ := hx3
  have e3 : n3 = x3 := by simpa [Value.cells] using e3
  subst e3
  subst hv4
  obtain ⟨w4, e4, hs4⟩ := hx4
  have e4 : Value.slice a4 l4 c4 = w4 := by simpa [Value.cells] using e4
  subst e4
  have hzb : ∀ s ∈ x4, s.bytes.length ≤ 140737488355328 := fun s hs => by
    have h1 : s.bytes.length * Try.prog.bytesOf 5 ≤ reachBytes := (k4.2 s hs).1.2.2.2.1.1
    have h2 : Try.prog.bytesOf 5 = 1 := by kernel_rfl
    rw [h2] at h1
    have h3 : reachBytes < 140737488355328 := by decide
    omega
  have := calls_of (c_law22_CanonTells (c := x0) (ticks := n3) hs1 hs2 hs4 (i64_wrap hs3) hzb fun H' g => ⟨rfl, g.toSame⟩)
  refine this.mono fun e W' ⟨he, ho⟩ => ?_
  subst he
  have harg := Old.trodAll laidOut (by kernel_rfl) hAll ho hlt
  refine ⟨_, rfl, _, _, _, [], _, [], hW', ?_, harg, rfl, ho.frame _, fun h => by cases h⟩
  exact trodAll_mk1 (shut_bool Try.underlying4 _)

theorem proved : Rows.CanonTellsSaid :=
  OpenClaim.holds_of_wide 3 Try.f3 rfl rfl rfl rfl rfl rfl rfl ⟨rfl, rfl, rfl, rfl, rfl⟩ rfl rfl rfl rfl rfl (by kernel_rfl) Try.func3 (by kernel_rfl)
    (of_decide_eq_true (by kernel_rfl)) (by unfold Func.isWrapper; first | (rw [if_pos (by decide +kernel)]; kernel_rfl) | (rw [if_neg (by decide +kernel)]; exact ⟨rfl, rfl⟩))
    (fun os started H enc _ => lifted os started H enc)

end Go.Proofs.Ytlalkgkicccjiaa.canonTells
