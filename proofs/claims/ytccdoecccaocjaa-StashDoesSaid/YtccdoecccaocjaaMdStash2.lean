/- Laws of stashes, in plain Lean. -/
import Derived.Test.YtccdoecccaocjaaMdStash
set_option linter.unusedVariables false
set_option linter.unusedSimpArgs false
namespace Go.Md

theorem up_ext : ∀ {s t : List Blk}, Up s → Up t → (∀ x, x ∈ s ↔ x ∈ t) → s = t
  | [], [], _, _, _ => rfl
  | [], b :: t, _, _, h => absurd ((h b).2 List.mem_cons_self) (by simp)
  | a :: s, [], _, _, h => absurd ((h a).1 List.mem_cons_self) (by simp)
  | a :: s, b :: t, hs, ht, h => by
    have hs' := List.pairwise_cons.1 hs
    have ht' := List.pairwise_cons.1 ht
    have e : a = b := by
      rcases List.mem_cons.1 ((h a).1 List.mem_cons_self) with e | e
      · exact e
      · rcases List.mem_cons.1 ((h b).2 List.mem_cons_self) with e2 | e2
        · exact e2.symm
        · have := ht'.1 a e
          have := hs'.1 b e2
          omega
    subst e
    rw [up_ext hs'.2 ht'.2 fun x => ?_]
    constructor
    · intro hx
      rcases List.mem_cons.1 ((h x).1 (List.mem_cons_of_mem _ hx)) with rfl | hx'
      · have := hs'.1 _ hx; omega
      · exact hx'
    · intro hx
      rcases List.mem_cons.1 ((h x).2 (List.mem_cons_of_mem _ hx)) with rfl | hx'
      · have := ht'.1 _ hx; omega
      · exact hx'

theorem mem_with {s : List Blk} {b x : Blk} (h : Up s) : x ∈ withB s b ↔ x = b ∨ (x ∈ s ∧ x.id ≠ b.id) := by
  unfold withB below above
  simp only [List.mem_append, List.mem_cons, List.mem_filter, decide_eq_true_eq]
  constructor
  · rintro (h | h | h)
    · exact .inr ⟨h.1, by omega⟩
    · exact .inl h
    · exact .inr ⟨h.1, by omega⟩
  · rintro (h | ⟨h1, h2⟩)
    · exact .inr (.inl h)
    · rcases Int.lt_trichotomy x.id b.id with h3 | h3 | h3
      · exact .inl ⟨h1, h3⟩
      · exact absurd h3 h2
      · exact .inr (.inr ⟨h1, h3⟩)
theorem has_with {s : List Blk} {b : Blk} (h : Up s) (n : Int) : hasB (withB s b) n = (decide (n = b.id) || hasB s n) := by
  rw [Bool.eq_iff_iff, hasB_iff, Bool.or_eq_true, hasB_iff, decide_eq_true_eq]
  constructor
  · rintro ⟨x, hx, he⟩
    rcases (mem_with h).1 hx with rfl | ⟨h1, h2⟩
    · exact .inl he.symm
    · exact .inr ⟨x, h1, he⟩
  · rintro (rfl | ⟨x, hx, he⟩)
    · exact ⟨b, (mem_with h).2 (.inl rfl), rfl⟩
    · by_cases e : n = b.id
      · exact ⟨b, (mem_with h).2 (.inl rfl), e.symm⟩
      · exact ⟨x, (mem_with h).2 (.inr ⟨hx, by omega⟩), he⟩
theorem find_none {s : List Blk} {n : Int} (h : hasB s n = false) : findB s n = none := by
  unfold findB
  rw [List.find?_eq_none]
  intro b hb he
  have : hasB s n = true := hasB_iff.2 ⟨b, hb, by simpa using he⟩
  rw [h] at this; cases this
theorem find_with {s : List Blk} {b : Blk} (h : Up s) (n : Int) : findB (withB s b) n = if n = b.id then some b else findB s n := by
  have hu := withB_up h b
  split
  · rename_i e
    subst e
    exact find_of hu ((mem_with h).2 (.inl rfl))
  · rename_i e
    cases hh : hasB s n with
    | false =>
      rw [find_none hh, find_none]
      rw [has_with h, hh, decide_eq_false e]; rfl
    | true =>
      obtain ⟨x, hx, rfl⟩ := hasB_iff.1 hh
      rw [find_of h hx, find_of hu ((mem_with h).2 (.inr ⟨hx, e⟩))]
theorem without_with {s : List Blk} {b : Blk} (h : Up s) (hh : hasB s b.id = false) : withoutB (withB s b) b.id = s := by
  refine up_ext ((withB_up h b).filter _) h fun x => ?_
  unfold withoutB
  rw [List.mem_filter, mem_with h]
  simp only [bne_iff_ne, ne_eq]
  constructor
  · rintro ⟨rfl | h1, h2⟩
    · exact absurd rfl h2
    · exact h1.1
  · intro hx
    have : x.id ≠ b.id := fun e => by
      have : hasB s b.id = true := hasB_iff.2 ⟨x, hx, e⟩
      rw [hh] at this; cases this
    exact ⟨.inr ⟨hx, this⟩, this⟩
theorem with_comm {s : List Blk} {a b : Blk} (h : Up s) (hne : a.id ≠ b.id) : withB (withB s a) b = withB (withB s b) a := by
  refine up_ext (withB_up (withB_up h a) b) (withB_up (withB_up h b) a) fun x => ?_
  rw [mem_with (withB_up h a), mem_with (withB_up h b), mem_with h, mem_with h]
  constructor
  · rintro (rfl | ⟨rfl | ⟨h1, h2⟩, h3⟩)
    · exact .inr ⟨.inl rfl, fun e => hne e.symm⟩
    · exact .inl rfl
    · exact .inr ⟨.inr ⟨h1, h3⟩, h2⟩
  · rintro (rfl | ⟨rfl | ⟨h1, h2⟩, h3⟩)
    · exact .inr ⟨.inl rfl, fun e => hne e⟩
    · exact .inl rfl
    · exact .inr ⟨.inr ⟨h1, h3⟩, h2⟩
theorem with_len_no {s : List Blk} {b : Blk} (h : Up s) (hh : hasB s b.id = false) : (withB s b).length = s.length + 1 := by
  rw [← put_ins h hh]
  have := congrArg List.length (List.take_append_drop (placeB s b.id) s)
  rw [List.length_append] at this
  simp only [List.length_append, List.length_singleton]
  omega
theorem with_len_has {s : List Blk} {b : Blk} (h : Up s) (hh : hasB s b.id = true) : (withB s b).length = s.length := by
  rw [← put_set h hh, List.length_set]

theorem with_may {l : Lvl} {s : List Blk} {b : Blk} (hs : stE l s = 0) (hb : blkE l b = 0) : stE l (withB s b) = 0 := by
  obtain ⟨h1, h2⟩ := stE_0.1 hs
  obtain ⟨h3, h4⟩ := stMay_iff.1 h2
  refine stE_0.2 ⟨h1, stMay_iff.2 ⟨fun x hx => ?_, withB_up h4 b⟩⟩
  rcases (mem_with h4).1 hx with rfl | ⟨h, _⟩
  · exact (blkE_0.1 hb).2
  · exact h3 x h

theorem add_one {l : Lvl} {s : List Blk} {b : Blk} : addF l s [b] = if blkMay l b && !hasB s b.id then some (withB s b) else none := by
  unfold addF; split <;> rfl
theorem add_two {l : Lvl} {s : List Blk} {a b : Blk} (h : Up s) : addF l s [a, b] = if blkMay l a && blkMay l b && !hasB s a.id && !hasB s b.id && decide (a.id ≠ b.id) then some (withB (withB s a) b) else none := by
  unfold addF
  cases h1 : blkMay l a with
  | false => simp
  | true =>
    cases h2 : hasB s a.id with
    | true => simp
    | false =>
      simp only [Bool.not_false, Bool.and_true, if_true, Bool.true_and]
      rw [add_one, has_with h]
      cases h3 : blkMay l b with
      | false => simp
      | true =>
        cases h4 : hasB s b.id with
        | true => simp
        | false =>
          by_cases e : b.id = a.id
          · simp [e]
          · have e' : ¬ a.id = b.id := fun h => e h.symm
            simp [e, e']

theorem addE_0 {l : Lvl} {s more : List Blk} : addE l s more = 0 ↔ stE l s = 0 ∧ ∃ t, addF l s more = some t := by
  unfold addE
  split
  · rename_i h
    cases hx : addF l s more with
    | none => simp
    | some t => simp [h]
  · rename_i h
    constructor
    · intro h'; cases h'
    · intro h'; exact absurd h'.1 h
theorem addE_8 {l : Lvl} {s more : List Blk} (h : addE l s more ≠ 0) : addE l s more = 8 := by
  unfold addE at h ⊢
  split
  · rename_i h1; rw [if_pos h1] at h; split
    · rename_i h2; rw [if_pos h2] at h; exact absurd rfl h
    · rfl
  · rfl

/-- Two blocks, at once, turned round, one behind the other. -/
theorem order_bad {l : Lvl} {s : List Blk} {a b : Blk} (h : addE l s [a, b] ≠ 0) : addE l s [b, a] = addE l s [a, b] ∧ (addE l s [a] = 0 → addE l (addV l s [a]) [b] ≠ 0) := by
  by_cases hs : stE l s = 0
  · have hu := stMay_up (stE_0.1 hs).2
    have hn : ¬ (blkMay l a && blkMay l b && !hasB s a.id && !hasB s b.id && decide (a.id ≠ b.id)) = true := fun hc => h (addE_0.2 ⟨hs, _, by rw [add_two hu, if_pos hc]⟩)
    refine ⟨?_, fun h1 h2 => ?_⟩
    · rw [addE_8 h]
      refine addE_8 fun h2 => ?_
      obtain ⟨_, t, ht⟩ := addE_0.1 h2
      rw [add_two hu] at ht
      split at ht
      · rename_i hc
        simp only [Bool.and_eq_true, decide_eq_true_eq] at hc hn
        exact hn ⟨⟨⟨⟨hc.1.1.1.2, hc.1.1.1.1⟩, hc.1.2⟩, hc.1.1.2⟩, fun e => hc.2 e.symm⟩
      · cases ht
    · obtain ⟨_, t, ht⟩ := addE_0.1 h1
      have hv : addV l s [a] = t := by unfold addV; rw [if_pos hs, ht]; rfl
      rw [add_one] at ht
      split at ht
      · rename_i hc
        cases ht
        obtain ⟨_, t2, ht2⟩ := addE_0.1 h2
        rw [hv, add_one, has_with hu] at ht2
        split at ht2
        · rename_i hc2
          simp only [Bool.and_eq_true, decide_eq_true_eq, Bool.not_eq_true', Bool.or_eq_false_iff, decide_eq_false_iff_not] at hc hc2 hn
          exact hn ⟨⟨⟨⟨hc.1, hc2.1⟩, hc.2⟩, hc2.2.2⟩, fun e => hc2.2.1 e.symm⟩
        · cases ht2
      · cases ht
  · refine ⟨?_, fun h1 => absurd (addE_0.1 h1).1 hs⟩
    rw [addE_8 h]
    exact addE_8 fun h2 => hs (addE_0.1 h2).1
theorem order_good {l : Lvl} {s : List Blk} {a b : Blk} (h : addE l s [a, b] = 0) : addE l s [b, a] = 0 ∧ addE l s [a] = 0 ∧ addE l (addV l s [a]) [b] = 0 ∧ addV l s [a, b] = addV l s [b, a] ∧ addV l s [a, b] = addV l (addV l s [a]) [b] ∧
    (addV l s [a, b]).length = s.length + 2 ∧ stE l (addV l s [a, b]) = 0 := by
  obtain ⟨hs, t, ht⟩ := addE_0.1 h
  have hu := stMay_up (stE_0.1 hs).2
  have ht' := ht
  rw [add_two hu] at ht'
  split at ht'
  · rename_i hc
    simp only [Bool.and_eq_true, decide_eq_true_eq, Bool.not_eq_true'] at hc
    obtain ⟨⟨⟨⟨c1, c2⟩, c3⟩, c4⟩, c5⟩ := hc
    cases ht'
    have v1 : addV l s [a, b] = withB (withB s a) b := by unfold addV; rw [if_pos hs, ht]; rfl
    have f2 : addF l s [b, a] = some (withB (withB s b) a) := by rw [add_two hu, c1, c2, c3, c4]; simp; exact fun e => c5 e.symm
    have v2 : addV l s [b, a] = withB (withB s b) a := by unfold addV; rw [if_pos hs, f2]; rfl
    have f3 : addF l s [a] = some (withB s a) := by rw [add_one, c1, c3]; rfl
    have v3 : addV l s [a] = withB s a := by unfold addV; rw [if_pos hs, f3]; rfl
    have hs1 := (stE_0.1 hs).1
    have hsa := with_may hs (blkE_0.2 ⟨hs1, c1⟩)
    have hb' : hasB (withB s a) b.id = false := by rw [has_with hu, c4, decide_eq_false (fun e => c5 e.symm)]; rfl
    have f4 : addF l (withB s a) [b] = some (withB (withB s a) b) := by rw [add_one, c2, hb']; rfl
    have v4 : addV l (withB s a) [b] = withB (withB s a) b := by unfold addV; rw [if_pos hsa, f4]; rfl
    refine ⟨addE_0.2 ⟨hs, _, f2⟩, addE_0.2 ⟨hs, _, f3⟩, by rw [v3]; exact addE_0.2 ⟨hsa, _, f4⟩, by rw [v1, v2, with_comm hu c5], by rw [v1, v3, v4], ?_, by rw [v1]; exact with_may hsa (blkE_0.2 ⟨hs1, c2⟩)⟩
    rw [v1, with_len_no (withB_up hu a) hb', with_len_no hu c3]
  · cases ht'

/-- What was put is found, and dropped again. -/
theorem back_good {l : Lvl} {s : List Blk} {b : Blk} (h : putE l s b = 0) : putV l s b = withB s b ∧ stE l s = 0 ∧ Up s ∧ stE l (withB s b) = 0 ∧ isV l (withB s b) b.id = true ∧ findV l (withB s b) b.id = b ∧ dropE l (withB s b) b.id = 0 ∧
    (isV l s b.id = false → dropV l (withB s b) b.id = s ∧ (withB s b).length = s.length + 1) ∧ (isV l s b.id = true → (withB s b).length = s.length) ∧ (∀ n, n ≠ b.id → isV l (withB s b) n = isV l s n ∧ findV l (withB s b) n = findV l s n) := by
  have h2 : stE l s = 0 ∧ blkE l b = 0 := Classical.byContradiction fun hh => by unfold putE at h; rw [if_neg hh] at h; cases h
  obtain ⟨hs, hb⟩ := h2
  have hu := stMay_up (stE_0.1 hs).2
  have hw := with_may hs hb
  have hi : ∀ n, isV l s n = hasB s n := fun n => by unfold isV; rw [decide_eq_true hs]; rfl
  have hiw : ∀ n, isV l (withB s b) n = (decide (n = b.id) || hasB s n) := fun n => by unfold isV; rw [decide_eq_true hw, has_with hu]; rfl
  have hd : dropE l (withB s b) b.id = 0 := by unfold dropE; rw [if_pos hw, has_with hu]; simp
  refine ⟨by unfold putV; rw [if_pos h], hs, hu, hw, by rw [hiw]; simp, by unfold findV; rw [if_pos hw, find_with hu, if_pos rfl]; rfl, hd, fun hn => ?_, fun hy => ?_, fun n hne => ⟨?_, ?_⟩⟩
  · rw [hi] at hn
    exact ⟨by unfold dropV; rw [if_pos hd, without_with hu hn], with_len_no hu hn⟩
  · rw [hi] at hy
    exact with_len_has hu hy
  · rw [hiw, hi, decide_eq_false hne]; rfl
  · unfold findV
    rw [if_pos hw, if_pos hs, find_with hu, if_neg hne]

end Go.Md
