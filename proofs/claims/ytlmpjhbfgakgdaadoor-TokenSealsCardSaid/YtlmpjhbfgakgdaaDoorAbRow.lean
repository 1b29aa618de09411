/- From the deep reading to what a row asks: what lay when the call began lies as it lay; an argument that is a slice of numbers. -/
import Derived.Test.YtlmpjhbfgakgdaaDoorAbRep
import Derived.Test.YtlmpjhbfgakgdaaDoorAbFn
import Derived.ProofKit
import Derived.OpenShut
namespace Go.Ab
open Go.ChangeShapes Go.WideShapes Go.ChangeAt Go.RowKit
set_option linter.unusedVariables false
set_option linter.unusedSimpArgs false

/-- Of what was there nothing turns. -/
structure Old (W W' : World) : Prop where
  os : W'.os = W.os
  output : W'.output = W.output
  size : W.heap.size ≤ W'.heap.size
  block : ∀ b : Nat, b < W.heap.size → W'.heap[b]? = W.heap[b]?
  froz : ∀ b : Nat, frOf W'.heap[b]? = frOf W.heap[b]?

theorem Old.of {W W' : World} {H' : Heap} (t : Turns W.heap W H' W') (s : Same W.heap.size W.heap H') : Old W W' := by
  refine ⟨t.kept.os, t.kept.output, by rw [t.agree.size]; exact s.size, fun b hb => ?_, t.kept.froz⟩
  by_cases ht : W.heap[b]? = some tomb
  · exact (t.kept.tombs b ht).2
  · have hs := s.same b hb
    rw [t.agree.same b (by rw [hs]; exact ht), hs]

theorem Old.frozen {W W' : World} (h : Old W W') (a : Addr) : W'.frozen? a = W.frozen? a := by
  have key : ∀ w : World, w.frozen? a = ((frOf w.heap[a.block]?).1 ≤ a.off && a.off < (frOf w.heap[a.block]?).2) := by
    intro w
    unfold World.frozen?
    cases hb : w.heap[a.block]? with
    | none => simp [frOf]
    | some o =>
      cases o with
      | cells c t fr => obtain ⟨lo, hi⟩ := fr; rfl
      | _ => simp [frOf]
  rw [key, key, h.froz]

theorem Old.frame {W W' : World} (h : Old W W') (may : MemPlace → Prop) : W.keptBut W' may := by
  refine ⟨h.os, h.output, fun i hi => ?_⟩
  rw [h.block i hi]
  split <;> simp_all

theorem Old.same {W W' : World} (h : Old W W') {p : MemPlace} (hp : p.block < W.heap.size) : W.sameAt W' p := by
  cases p with
  | cell b o => exact World.cell?_of_block (w := W) (h.block b hp)
  | map b => exact h.block b hp

theorem Old.trod {H : Type} {enc : TypeId × Value → H} {P : Program} {t : TypeId} (hl : laidOutB P = true) (hr : P.readableRec t = true) (hrow : t < P.types.size) {W W' : World} {v : Value} {d : DataW H} {ps : List MemPlace}
    (h : DataW.Trod enc P W 0 (fun _ => true) true t v d ps) (hb : Old W W') (hlt : ∀ x ∈ ps, x.block < W.heap.size) :
    DataW.Trod enc P W' 0 (fun b => decide (b < W.heap.size)) true t v d ps :=
  WideElems.Trod_stays hl hr hrow h (fun x hx => hb.same (hlt x hx)) (fun x hx => by simpa using hlt x hx)

/-- A function's contract over the whole heap is a contract of its call. -/
theorem calls_of {P : Program} {f : Nat} {args : List Value} {W : World} {r : Value} (h : callV P (fnV f) args W.heap fun v H' => v = r ∧ Same W.heap.size W.heap H') :
    Calls P f args.toArray W fun e W' => e = .returned r ∧ Old W W' := by
  unfold callV fnV at h
  simp only at h
  have h := h.2 W ⟨rfl, fun _ _ => rfl⟩
  simp only [Array.empty_append, Array.append_empty] at h
  refine h.mono fun e W' ⟨v, H', he, ht, hv, hs⟩ => ?_
  subst hv
  exact ⟨he, .of ht hs⟩

/-- An argument that is a slice of numbers. -/
theorem rd_ints {H : Type} {enc : TypeId × Value → H} {P : Program} {t e : TypeId} {q : IntKind} {W : World} {v : Value} {d : DataW H} {ps : List MemPlace} (ht : P.underlying t = some (.slice e)) (he : P.underlying e = some (.int q)) (hc : P.cellsOf e = 1)
    (hv : ∃ a len cap, v = .slice a len cap) (h : DataW.Trod enc P W 0 (fun _ => true) true t v d ps) :
    ∃ xs : List Int, Rd W.heap W.heap.size 1 v (xs.map (.int q)) ∧ ∀ n ∈ xs, (Lit.int q n).wf = true := by
  obtain ⟨a0, len, cap, rfl⟩ := hv
  obtain ⟨fuel, hf⟩ := h
  rcases open_ints ht he hc hf with ⟨hcs, hx⟩ | ⟨a, len', cap', zs, hcs, _, hl, hm, hz, hx, hcell, hwz⟩
  · simp [Value.cells] at hcs
    obtain ⟨rfl, rfl, rfl⟩ := hcs
    exact ⟨[], Rd.nil _ _ _ _ _, by simp⟩
  · simp [Value.cells] at hcs
    obtain ⟨rfl, rfl, rfl⟩ := hcs
    simp only [if_true] at hz
    refine ⟨zs.take len, ⟨some a, len, cap, rfl, by simp; omega, by rw [List.all_eq_true]; intro x hx; obtain ⟨_, _, rfl⟩ := List.mem_map.1 hx; rfl, ?_⟩, fun n hn => hwz n (List.mem_of_mem_take hn)⟩
    by_cases h0 : len = 0
    · subst h0; exact .inl (by simp)
    · obtain ⟨b, off, rfl, hc⟩ := ints_at hcell (by omega)
      have h1 := hc 0 (by omega)
      have hb : ∃ c t fr, W.heap[b]? = some (.cells c t fr) := by
        unfold World.cell? at h1
        split at h1
        · rename_i c t fr hb; exact ⟨c, t, fr, hb⟩
        · cases h1
      obtain ⟨c, t', fr, hb⟩ := hb
      have hcs : ∀ j, j < zs.length → c[off + j]? = some (.int q (zs.getD j 0)) := by
        intro j hj
        have := hc j hj
        unfold World.cell? at this
        rw [hb] at this
        simpa using this
      have hle : off + len ≤ c.size := by
        have := hcs (len - 1) (by omega)
        have := (Array.getElem?_eq_some_iff.1 this).1
        omega
      refine .inr ⟨b, off, rfl, (Array.getElem?_eq_some_iff.1 hb).1, ?_⟩
      unfold cellsAt
      rw [hb]
      simp only [Nat.mul_one]
      rw [if_pos hle]
      congr 1
      apply List.ext_getElem?
      intro j
      by_cases hj : j < len
      · rw [seg_get hj]
        have := hcs j (by omega)
        rw [Array.getElem?_toList, this]
        rw [List.getElem?_map, List.getElem?_take, if_pos hj, List.getElem?_eq_getElem (show j < zs.length by omega)]
        simp [List.getD_eq_getElem?_getD, show j < zs.length by omega]
      · rw [List.getElem?_eq_none (by rw [seg_length (by simpa using hle)]; omega), List.getElem?_eq_none (by simp; omega)]

end Go.Ab
