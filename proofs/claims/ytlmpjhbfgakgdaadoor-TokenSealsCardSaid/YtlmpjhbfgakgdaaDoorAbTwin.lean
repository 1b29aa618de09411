/- Clones, and copies whose elements are copied one by one. -/
import Derived.Test.YtlmpjhbfgakgdaaDoorAbSeg
namespace Go.Ab
set_option linter.unusedVariables false
set_option linter.unusedSimpArgs false
variable {α : Type} {R : Rep α} {H H' : Heap} {A A' B : Nat → Prop} {n : Nat}

/-- What 'slices.Clone' does. -/
def ClonePT (t e n bytes : Nat) (agg : Bool) (z : List Value) (x0 : Value) (H : Heap) (Q : Value → Heap → Prop) : Prop :=
  binV (.slice t) .eql x0 (.slice none 0 0) fun t4 =>
  asB t4 fun b4 =>
  ifB b4 (
  Q (.slice none 0 0) H) (
  bldS e n agg z 0 [] H fun t5 H =>
  appS e n bytes z t5 x0 H fun t7 H =>
  Q t7 H)

theorem clone_gen {t e bytes : Nat} {agg : Bool} {z : List Value} {x : Value} {xs : List α} {Q : Value → Heap → Prop} (hx : Sl R H A x xs) (hn : R.n = n) (hn0 : 0 < n) (hz : z.length = n) (hl : xs.length * bytes ≤ 140737488355328)
    (hl2 : xs.length ≤ 9223372036854775807) (hQ : ∀ u H' b, Ow R H' b (fun y => A y ∧ y < H.size) u xs → G H H' → (b = 0 ∨ H.size < b) → Q u H') : ClonePT t e n bytes agg z x H Q := by
  unfold ClonePT
  have h0 := hx
  obtain ⟨a, cap, css, rfl, h2, h3, h4⟩ := hx
  simp only [binV, binR]
  refine ifB_of (fun ha => ?_) (fun ha => ?_)
  · have : xs = [] := by
      rcases h4 with h | ⟨b, o, rfl, _⟩
      · exact h
      · cases ha
    subst this
    exact hQ _ H 0 (Ow.nil _ _ _) (Fr.refl _ _) (.inl rfl)
  · refine bld_nil R fun t5 H1 ht g1 s1 => ?_
    have h1 := (h0.mono (A' := fun y => A y ∧ y < H.size) fun y hy hlt => ⟨hy, hlt⟩).g g1
    refine ht.app h1.src hn hn0 hz (fun y hy hlt => by rcases hy with hy | hy; exact hy.elim; omega) (by simpa using hl) (by simpa using hl2) fun u H2 b hu f hb _ => ?_
    rw [List.nil_append] at hu
    refine hQ u H2 b (hu.mono fun y hy _ => hy.1.elim False.elim id) (g1.then f fun y hy => by omega) (by omega)

/-! ### Elements that are copied, one behind another -/

/-- Elements that are marked hang on nothing older than m. -/
def rOld (m : Nat) (R : Rep α) : Rep (α × Bool) where
  n := R.n
  rel := fun H A cs p => R.rel H (fun y => A y ∧ (p.2 = true → m ≤ y)) cs p.1
  len := R.len
  okc := R.okc
  fr := fun h hb => R.fr h fun b hA hlt => ⟨⟨(hb b hA.1 hlt).1, hA.2⟩, (hb b hA.1 hlt).2⟩

def flags (xs : List α) (i : Nat) : List (α × Bool) := (xs.take i).map (·, true) ++ (xs.drop i).map (·, false)
theorem flags_len (xs : List α) (i : Nat) : (flags xs i).length = xs.length := by unfold flags; simp; omega
theorem flags_get {xs : List α} {i : Nat} {x : α} (h : xs[i]? = some x) : (flags xs i)[i]? = some (x, false) := by
  have := (List.getElem?_eq_some_iff.1 h).1
  unfold flags
  rw [List.getElem?_append_right (by simp; omega)]
  simp only [List.length_map, List.length_take]
  rw [show i - min i xs.length = 0 by omega, List.getElem?_map, List.getElem?_drop]
  simp [h]
theorem flags_set {xs : List α} {i : Nat} {x : α} (h : xs[i]? = some x) : (flags xs i).set i (x, true) = flags xs (i + 1) := by
  have hlt := (List.getElem?_eq_some_iff.1 h).1
  have hx := (List.getElem?_eq_some_iff.1 h).2
  unfold flags
  rw [List.set_append_right _ _ (by simp; omega)]
  simp only [List.length_map, List.length_take]
  rw [show i - min i xs.length = 0 by omega, List.take_succ_eq_append_getElem hlt, List.drop_eq_getElem_cons hlt, hx]
  simp

theorem Ow.mark {b : Nat} {v : Value} {xs : List α} (h : Ow R H b A v xs) (m : Nat) : Ow (rOld m R) H b A v (flags xs 0) := by
  have e : flags xs 0 = xs.map (·, false) := by simp [flags]
  rw [e]
  obtain ⟨css, h2, h3, h4⟩ := h
  refine ⟨css, by simpa using h2, fun i cs p hc hp => ?_, ?_⟩
  · rw [List.getElem?_map] at hp
    cases hx : xs[i]? with
    | none => rw [hx] at hp; cases hp
    | some x =>
      rw [hx] at hp
      cases hp
      exact R.mono (h3 i cs x hc hx) fun y hy _ => ⟨hy, fun h => by cases h⟩
  · rcases h4 with ⟨rfl, rfl, rfl⟩ | ⟨k, cap, rest, e, rfl, rfl, hle, hk, hl⟩
    · exact .inl ⟨rfl, rfl, rfl⟩
    · exact .inr ⟨k, cap, rest, e, rfl, by simp, by simpa using hle, hk, hl⟩
theorem Ow.unmark {b : Nat} {v : Value} {xs : List α} {m : Nat} (h : Ow (rOld m R) H b A v (flags xs xs.length)) : Ow R H b (fun y => A y ∧ m ≤ y) v xs := by
  have e : flags xs xs.length = xs.map (·, true) := by simp [flags]
  rw [e] at h
  obtain ⟨css, h2, h3, h4⟩ := h
  refine ⟨css, by simpa using h2, fun i cs x hc hx => ?_, ?_⟩
  · have := h3 i cs (x, true) hc (by rw [List.getElem?_map, hx]; rfl)
    exact R.mono this fun y hy _ => ⟨hy.1, hy.2 rfl⟩
  · rcases h4 with ⟨rfl, h5, rfl⟩ | ⟨k, cap, rest, e, rfl, rfl, hle, hk, hl⟩
    · exact .inl ⟨rfl, by simpa using h5, rfl⟩
    · exact .inr ⟨k, cap, rest, e, rfl, by simp, by simpa using hle, hk, hl⟩

end Go.Ab
