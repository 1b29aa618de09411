/- Functions that call what they are handed, again and again, and have blocks of their own: what they call writes no blocks but those that are told. -/
import Derived.Test.YtlalkgkicccjiaaAbIter
namespace Go.Ab
set_option linter.unusedVariables false
set_option linter.unusedSimpArgs false
variable {P : Program} {H : Heap}

/-- What was there stays, but for blocks of W; W' is of W and of what is new. -/
def Ext (W : Nat → Prop) (H : Heap) (W' : Nat → Prop) (H' : Heap) : Prop :=
  H.size ≤ H'.size ∧ (∀ y, y < H.size → ¬ W y → H'[y]? = H[y]?) ∧ ∀ y, W' y → W y ∨ H.size ≤ y

theorem Ext.refl (W : Nat → Prop) (H : Heap) : Ext W H W H := ⟨Nat.le_refl _, fun _ _ _ => rfl, fun _ h => .inl h⟩
theorem Ext.g {W : Nat → Prop} {H H' : Heap} (h : G H H') : Ext W H W H' := ⟨h.size, fun y hy _ => h.same y hy trivial, fun _ h => .inl h⟩
theorem Ext.trans {W W' W'' : Nat → Prop} {H H' H'' : Heap} (h : Ext W H W' H') (h' : Ext W' H' W'' H'') : Ext W H W'' H'' :=
  ⟨Nat.le_trans h.1 h'.1, fun y hy hw => (h'.2.1 y (Nat.lt_of_lt_of_le hy h.1) fun hw' => (h.2.2 y hw').elim hw fun hh => by omega).trans (h.2.1 y hy hw),
    fun y hy => (h'.2.2 y hy).elim (h.2.2 y) fun hh => .inr (Nat.le_trans h.1 hh)⟩

def IterW (P : Program) (fv : Value) (N : Nat) (Y : Nat → Nat → Heap → List Value → Prop) (S : Heap → Prop) : Prop :=
  ∀ (yv : Value) (I : Nat → (Nat → Prop) → Heap → Prop) (E : (Nat → Prop) → Heap → Prop) (H : Heap) (Q : Value → Heap → Prop) (W0 : Nat → Prop), okc yv = true →
    (∀ i W H H', I i W H → G H H' → I i W H') → (∀ W H H', E W H → G H H' → E W H') → (∀ i W H, I i W H → S H) → (∀ W H, E W H → S H) → (∀ i W H', I i W H' → H.size ≤ H'.size) →
    (∀ i W H', I i W H' → ∀ y, W y → y < H'.size) → I 0 W0 H →
    (∀ i W H' a (K : Value → Heap → Prop), i < N → I i W H' → Y i H.size H' a → (∀ W' H'', I (i + 1) W' H'' → Ext W H' W' H'' → K (.bool true) H'') → (∀ W' H'', E W' H'' → Ext W H' W' H'' → K (.bool false) H'') → callV P yv a H' K) →
    (∀ v W' H', Ext W0 H W' H' → (I N W' H' ∨ E W' H') → Q v H') → callV P fv [yv] H Q

/-- A loop over such a function. -/
theorem range_iterW {fv : Value} {N : Nat} {Y : Nat → Nat → Heap → List Value → Prop} {S : Heap → Prop} {Round : List Value → Heap → (Option (Option Nat) → Heap → Prop) → Prop} {kn : Heap → Prop} {ks : List (Option Nat × (Heap → Prop))}
    (hit : IterW P fv N Y S) (hfn : isFn fv) (J : Nat → (Nat → Prop) → Heap → Prop) (E : Option Nat → (Nat → Prop) → Heap → Prop) (W0 : Nat → Prop) (hG : ∀ i W H H', J i W H → G H H' → J i W H') (hE : ∀ c W H H', E c W H → G H H' → E c W H')
    (hS : ∀ i W (H1 H' : Heap), J i W H1 → Fr (fun y => y ≠ H.size + 1) H1 H' → S H') (hSE : ∀ c W (H1 H' : Heap), E c W H1 → Fr (fun y => y ≠ H.size + 1) H1 H' → S H') (hz : ∀ i W H', J i W H' → H.size + 2 ≤ H'.size)
    (hw : ∀ i W H', J i W H' → ∀ y, W y → y < H'.size) (h0 : ∀ H', G H H' → H'.size = H.size + 2 → J 0 W0 H')
    (hr : ∀ i W H1 H' a (K : Option (Option Nat) → Heap → Prop), i < N → J i W H' → Y i (H.size + 2) H1 a → Fr (fun y => y ≠ H.size + 1) H1 H' → H'.size = H1.size → H'[H.size + 1]? = some tomb →
      (∀ W2 H2, J (i + 1) W2 H2 → Ext W H' W2 H2 → H2[H.size + 1]? = some tomb → K none H2) → (∀ c W2 H2, E c W2 H2 → Ext W H' W2 H2 → H2[H.size + 1]? = some tomb → K (some c) H2) → Round a H' K)
    (hn : ∀ W H', J N W H' → kn H') (hk : ∀ c W H', E c W H' → ∃ p ∈ ks, p.1 = c ∧ p.2 H') : RangePT P fv H Round kn ks := by
  refine ⟨hfn, fun o ho hy => ?_⟩
  have hset : ∀ (H' : Heap) (x : Obj), Fr (fun y => y ≠ H.size + 1) H' (H'.setIfInBounds (H.size + 1) x) := fun H' x => set_fr H' _ x
  have hgset : ∀ {H1 H2 : Heap}, G H1 H2 → G (H1.setIfInBounds (H.size + 1) tomb) (H2.setIfInBounds (H.size + 1) tomb) := by
    intro H1 H2 g
    refine ⟨by simpa using g.size, fun x hx _ => ?_⟩
    have hx' : x < H1.size := by simpa using hx
    by_cases e : x = H.size + 1
    · subst e
      rw [set_at _ hx', set_at _ (Nat.lt_of_lt_of_le hx' g.size)]
    · rw [Array.getElem?_setIfInBounds_ne (Ne.symm e), Array.getElem?_setIfInBounds_ne (Ne.symm e)]
      exact g.same x hx' trivial
  have hsz0 : ((H.push tomb).push (o none)).size = H.size + 2 := by simp
  refine hit _ (fun i W' H' => H'[H.size + 1]? = some (o none) ∧ ∃ W, (∀ y, W' y ↔ W y ∨ y = H.size + 1) ∧ J i W (H'.setIfInBounds (H.size + 1) tomb))
    (fun W' H' => ∃ c, H'[H.size + 1]? = some (o (some c)) ∧ ∃ W, E c W (H'.setIfInBounds (H.size + 1) tomb)) _ _ (fun y => W0 y ∨ y = H.size + 1) rfl
    (fun i W' H1 H2 ⟨h1, W, h2, h3⟩ g => ⟨fr_at h1 g trivial, W, h2, hG i _ _ _ h3 (hgset g)⟩) (fun W' H1 H2 ⟨c, h1, W, h2⟩ g => ⟨c, fr_at h1 g trivial, W, hE c _ _ _ h2 (hgset g)⟩) (fun i W' H' h => ?_) (fun W' H' h => ?_) (fun i W' H' h => ?_) (fun i W' H' h y hy => ?_)
    ⟨push2_at _ _ _, W0, fun _ => Iff.rfl, ?_⟩ (fun i W' H' a K hi h hY hc hs => ?_) (fun v W' H' _ h => ?_)
  · obtain ⟨h1, W, h2, h3⟩ := h
    refine hS i W _ H' h3 ⟨by simp, fun x hx hne => ?_⟩
    rw [Array.getElem?_setIfInBounds_ne (Ne.symm hne)]
  · obtain ⟨c, h1, W, h2⟩ := h
    refine hSE c W _ H' h2 ⟨by simp, fun x hx hne => ?_⟩
    rw [Array.getElem?_setIfInBounds_ne (Ne.symm hne)]
  · obtain ⟨h1, W, h2, h3⟩ := h
    have := hz i _ _ h3
    rw [hsz0]
    simpa using this
  · obtain ⟨h1, W, h2, h3⟩ := h
    have hlt := (Array.getElem?_eq_some_iff.1 h1).1
    rcases (h2 y).1 hy with hy | rfl
    · simpa using hw i _ _ h3 y hy
    · exact hlt
  · refine h0 _ ⟨by simp; omega, fun x hx _ => ?_⟩ (by simp)
    rw [Array.getElem?_setIfInBounds_ne (by omega), Array.getElem?_push, Array.getElem?_push]
    rw [if_neg (by simp; omega), if_neg (by omega)]
  · rw [hsz0] at hY
    obtain ⟨h1, W, h2, h3⟩ := h
    have hlt := (Array.getElem?_eq_some_iff.1 h1).1
    have hext : ∀ (W2 : Nat → Prop) (H2 : Heap) (x : Obj) (W3 : Nat → Prop), Ext W (H'.setIfInBounds (H.size + 1) tomb) W2 H2 → (∀ y, W3 y → W2 y ∨ y = H.size + 1) → Ext W' H' W3 (H2.setIfInBounds (H.size + 1) x) := by
      intro W2 H2 x W3 he h3'
      have hsz : H'.size ≤ H2.size := by simpa using he.1
      refine ⟨by simpa using hsz, fun y hy hny => ?_, fun y hy => ?_⟩
      · have hne : H.size + 1 ≠ y := fun e => hny ((h2 y).2 (.inr e.symm))
        rw [Array.getElem?_setIfInBounds_ne hne, he.2.1 y (by simpa using hy) fun hh => hny ((h2 y).2 (.inl hh)), Array.getElem?_setIfInBounds_ne hne]
      · rcases h3' y hy with h | h
        · rcases he.2.2 y h with h | h
          · exact .inl ((h2 y).2 (.inl h))
          · exact .inr (by simpa using h)
        · exact .inl ((h2 y).2 (.inr h))
    refine hy a H' K h1 (hr i W H' _ a _ hi h3 hY (hset H' tomb) (by simp) (set_at _ hlt) (fun W2 H2 h4 he ht => ?_) (fun c W2 H2 h4 he ht => ?_))
    all_goals
      have hlt2 := (Array.getElem?_eq_some_iff.1 ht).1
      have e : ∀ x, (H2.setIfInBounds (H.size + 1) x).setIfInBounds (H.size + 1) tomb = H2 := fun x => by
        apply Array.ext_getElem?
        intro i
        by_cases e : i = H.size + 1
        · subst e; rw [ht, set_at _ (by simpa using hlt2)]
        · rw [Array.getElem?_setIfInBounds_ne (Ne.symm e), Array.getElem?_setIfInBounds_ne (Ne.symm e)]
    · exact hc (fun y => W2 y ∨ y = H.size + 1) _ ⟨set_at _ hlt2, W2, fun _ => Iff.rfl, by rw [e]; exact h4⟩ (hext W2 H2 _ _ he fun y hy => hy)
    · exact hs (fun y => W2 y ∨ y = H.size + 1) _ ⟨c, set_at _ hlt2, W2, by rw [e]; exact h4⟩ (hext W2 H2 _ _ he fun y hy => hy)
  · rcases h with ⟨h1, W, h2, h3⟩ | ⟨c, h1, W, h2⟩
    · exact .inl ⟨h1, hn _ _ h3⟩
    · obtain ⟨p, hp, rfl, hp2⟩ := hk c _ _ h2
      exact .inr ⟨p, hp, h1, hp2⟩

end Go.Ab
