/- Functions that call what they are handed, again and again; loops over such functions. -/
import Derived.Test.YtlmpjhbfgakgdaaDoorAbKind
import Derived.Test.YtlmpjhbfgakgdaaDoorAbRange
namespace Go.Ab
set_option linter.unusedVariables false
set_option linter.unusedSimpArgs false
variable {P : Program} {H : Heap}

/-- 'fv' calls what it is handed N times, by arguments of which Y tells (above m: what it made), as long as that answers true; S: what it leans on. -/
def IterC (P : Program) (fv : Value) (N : Nat) (Y : Nat → Nat → Heap → List Value → Prop) (S : Heap → Prop) : Prop :=
  ∀ (yv : Value) (I : Nat → Heap → Prop) (E : Heap → Prop) (H : Heap) (Q : Value → Heap → Prop), (∀ i H H', I i H → G H H' → I i H') → (∀ H H', E H → G H H' → E H') → (∀ i H, I i H → S H) → (∀ H, E H → S H) → (∀ i H', I i H' → H.size ≤ H'.size) → I 0 H →
    (∀ i H' a (K : Value → Heap → Prop), i < N → I i H' → Y i H.size H' a → (∀ H'', I (i + 1) H'' → K (.bool true) H'') → (∀ H'', E H'' → K (.bool false) H'') → callV P yv a H' K) →
    (∀ v H', I N H' ∨ E H' → Q v H') → callV P fv [yv] H Q

/-- The record of a loop over a function is not looked at by its rounds. -/
theorem range_iter {fv : Value} {N : Nat} {Y : Nat → Nat → Heap → List Value → Prop} {S : Heap → Prop} {Round : List Value → Heap → (Option (Option Nat) → Heap → Prop) → Prop} {kn : Heap → Prop} {ks : List (Option Nat × (Heap → Prop))}
    (hit : IterC P fv N Y S) (hfn : isFn fv) (I : Nat → Heap → Prop) (E : Option Nat → Heap → Prop) (hG : ∀ i H H', I i H → G H H' → I i H') (hE : ∀ c H H', E c H → G H H' → E c H')
    (hS : ∀ i (H1 H' : Heap), I i H1 → Fr (fun y => y ≠ H.size + 1) H1 H' → S H') (hSE : ∀ c (H1 H' : Heap), E c H1 → Fr (fun y => y ≠ H.size + 1) H1 H' → S H') (hz : ∀ i H', I i H' → H.size + 2 ≤ H'.size) (hz2 : ∀ c H', E c H' → H.size + 2 ≤ H'.size) (h0 : ∀ H', G H H' → H'.size = H.size + 2 → I 0 H')
    (hr : ∀ i H1 H' a (K : Option (Option Nat) → Heap → Prop), i < N → I i H' → Y i (H.size + 2) H1 a → Fr (fun y => y ≠ H.size + 1) H1 H' → H'.size = H1.size → H'[H.size + 1]? = some tomb →
      (∀ H2, I (i + 1) H2 → H2[H.size + 1]? = some tomb → K none H2) → (∀ c H2, E c H2 → H2[H.size + 1]? = some tomb → K (some c) H2) → Round a H' K)
    (hn : ∀ H', I N H' → kn H') (hk : ∀ c H', E c H' → ∃ p ∈ ks, p.1 = c ∧ p.2 H') : RangePT P fv H Round kn ks := by
  refine ⟨hfn, fun o ho hy => ?_⟩
  have hset : ∀ (H' : Heap) (x : Obj), Fr (fun y => y ≠ H.size + 1) H' (H'.setIfInBounds (H.size + 1) x) := fun H' x => set_fr H' _ x
  have hgset : ∀ {H1 H2 : Heap}, G H1 H2 → G (H1.setIfInBounds (H.size + 1) tomb) (H2.setIfInBounds (H.size + 1) tomb) := by
    intro H1 H2 g
    refine ⟨by simpa using g.size, fun x hx _ => ?_⟩
    have hx' : x < H1.size := by simpa using hx
    by_cases e : x = H.size + 1
    · subst e
      rw [set_at _ hx', set_at _ (Nat.lt_of_lt_of_le hx' g.size)]
    · rw [Array.getElem?_setIfInBounds_ne (Ne.symm e), Array.getElem?_setIfInBounds_ne (Ne.symm e)]
      exact g.same x hx' trivial
  have hsz0 : ((H.push tomb).push (o none)).size = H.size + 2 := by simp
  refine hit _ (fun i H' => H'[H.size + 1]? = some (o none) ∧ I i (H'.setIfInBounds (H.size + 1) tomb)) (fun H' => ∃ c, H'[H.size + 1]? = some (o (some c)) ∧ E c (H'.setIfInBounds (H.size + 1) tomb)) _ _
    (fun i H1 H2 h g => ⟨fr_at h.1 g trivial, hG i _ _ h.2 (hgset g)⟩) (fun H1 H2 ⟨c, h1, h2⟩ g => ⟨c, fr_at h1 g trivial, hE c _ _ h2 (hgset g)⟩) (fun i H' h => ?_) (fun H' h => ?_) (fun i H' h => ?_) ⟨push2_at _ _ _, ?_⟩
    (fun i H' a K hi h hY hc hs => ?_) (fun v H' h => ?_)
  · have hlt := (Array.getElem?_eq_some_iff.1 h.1).1
    refine hS i _ H' h.2 ⟨by simp, fun x hx hne => ?_⟩
    rw [Array.getElem?_setIfInBounds_ne (Ne.symm hne)]
  · obtain ⟨c, h1, h2⟩ := h
    refine hSE c _ H' h2 ⟨by simp, fun x hx hne => ?_⟩
    rw [Array.getElem?_setIfInBounds_ne (Ne.symm hne)]
  · have := hz i _ h.2
    rw [hsz0]
    simpa using this
  · refine h0 _ ⟨by simp; omega, fun x hx _ => ?_⟩ (by simp)
    rw [Array.getElem?_setIfInBounds_ne (by omega), Array.getElem?_push, Array.getElem?_push]
    rw [if_neg (by simp; omega), if_neg (by omega)]
  · rw [hsz0] at hY
    have hlt := (Array.getElem?_eq_some_iff.1 h.1).1
    refine hy a H' K h.1 (hr i H' _ a _ hi h.2 hY (hset H' tomb) (by simp) (set_at _ hlt) (fun H2 h2 ht => ?_) (fun c H2 h2 ht => ?_))
    all_goals
      have hlt2 := (Array.getElem?_eq_some_iff.1 ht).1
      have e : ∀ x, (H2.setIfInBounds (H.size + 1) x).setIfInBounds (H.size + 1) tomb = H2 := fun x => by
        apply Array.ext_getElem?
        intro i
        by_cases e : i = H.size + 1
        · subst e; rw [ht, set_at _ (by simpa using hlt2)]
        · rw [Array.getElem?_setIfInBounds_ne (Ne.symm e), Array.getElem?_setIfInBounds_ne (Ne.symm e)]
    · exact hc _ ⟨set_at _ hlt2, by rw [e]; exact h2⟩
    · exact hs _ ⟨c, set_at _ hlt2, by rw [e]; exact h2⟩
  · rcases h with ⟨h1, h2⟩ | ⟨c, h1, h2⟩
    · exact .inl ⟨h1, hn _ h2⟩
    · obtain ⟨p, hp, rfl, hp2⟩ := hk c _ h2
      exact .inr ⟨p, hp, h1, hp2⟩

end Go.Ab
