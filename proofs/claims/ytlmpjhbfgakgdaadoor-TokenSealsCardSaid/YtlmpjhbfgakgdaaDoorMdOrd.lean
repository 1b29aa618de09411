/- Units, the blocks of pages, and which cells are told, in plain Lean. Maps. -/
import Derived.Test.YtlmpjhbfgakgdaaDoorMdDev
import Derived.Test.YtlmpjhbfgakgdaaDoorAbMore
set_option linter.unusedVariables false
set_option linter.unusedSimpArgs false
namespace Go.Ab
/-- A map by whole numbers, of block r. -/
def Mp (H : Heap) (r : Nat) (q : IntKind) (f : Int → Option Value) : Prop := ∃ es cl, H[r]? = some (.map es cl) ∧ mOk q es.toList f

section
variable {H H' : Heap} {r : Nat} {q : IntKind} {f : Int → Option Value} {B : Nat → Prop}
theorem Mp.lt (h : Mp H r q f) : r < H.size := by obtain ⟨es, cl, h, _⟩ := h; exact (Array.getElem?_eq_some_iff.1 h).1
theorem Mp.up (h : Mp H r q f) (hf : Fr B H H') (hb : B r) : Mp H' r q f := by
  have := h.lt
  obtain ⟨es, cl, h1, h2⟩ := h; exact ⟨es, cl, by rw [hf.same r this hb]; exact h1, h2⟩
theorem Mp.g (h : Mp H r q f) (hf : G H H') : Mp H' r q f := h.up hf trivial
theorem mkM_mp {k : Value → Heap → Prop} (hk : ∀ H', Mp H' H.size q (fun _ => none) → G H H' → H'.size = H.size + 1 → k (.map (some H.size)) H') : mkM H k :=
  hk _ ⟨#[], 0, by simp, by simp, fun key => .inl ⟨by simp [Instr.findNow], rfl⟩⟩ (G.push _ _) (by simp)
theorem Mp.get {z : Value} {key : Int} {k : Value → Bool → Prop} (h : Mp H r q f) (hk : k ((f key).getD z) (f key).isSome) : getM q z (.map (some r)) (.int q key) H k := by
  obtain ⟨es, cl, h3, h4⟩ := h
  exact MapO.get (m := 0) ⟨r, es, cl, rfl, Nat.zero_le _, h3, h4⟩ hk
theorem Mp.put {x : Value} {key : Int} {k : Heap → Prop} (h : Mp H r q f)
    (hk : ∀ H', Mp H' r q (fun y => if y = key then some x else f y) → Fr (fun y => y ≠ r) H H' → H'.size = H.size → k H') : putM q (.map (some r)) (.int q key) x H k := by
  obtain ⟨es, cl, h3, h4⟩ := h
  have hlt := (Array.getElem?_eq_some_iff.1 h3).1
  have same : ∀ o, Fr (fun y => y ≠ r) H (H.setIfInBounds r o) := fun o => ⟨by simp, fun b hb hne => by rw [Array.getElem?_setIfInBounds_ne (by omega)]⟩
  have here : ∀ o, (H.setIfInBounds r o)[r]? = some o := fun o => by simp [hlt]
  unfold putM
  refine ⟨rfl, ?_⟩
  simp only [h3]
  rcases h4.2 key with ⟨h, hf⟩ | ⟨i, y, h, hf⟩
  · rw [h]
    refine hk _ ⟨_, _, here _, ?_, fun key' => ?_⟩ (same _) (by simp)
    · intro e he
      simp only [Array.toList_push, List.mem_append, List.mem_singleton] at he
      rcases he with he | rfl
      · exact h4.1 e he
      · exact ⟨key, rfl⟩
    · rw [Array.toList_push, findNow_push (a := key) rfl h4.1]
      by_cases hk' : key' = key
      · subst hk'
        rw [h]
        exact .inr ⟨0 + es.toList.length, x, by simp, by simp⟩
      · rcases h4.2 key' with ⟨h', hf'⟩ | ⟨i', y', h', hf'⟩
        · rw [h']; exact .inl ⟨by simp [hk'], by simp [hk', hf']⟩
        · rw [h']; exact .inr ⟨i', y', rfl, by simp [hk', hf']⟩
  · rw [h]
    refine hk _ ⟨_, _, here _, ?_, fun key' => ?_⟩ (same _) (by simp)
    · intro e he
      rw [Array.toList_modify] at he
      obtain ⟨j, hj⟩ := List.mem_iff_getElem?.1 he
      rw [List.getElem?_modify] at hj
      cases hx : es.toList[j]? with
      | none => rw [hx] at hj; cases hj
      | some e0 =>
        rw [hx] at hj
        simp only [Option.map_eq_map, Option.map_some, Option.some.injEq] at hj
        split at hj
        · subst hj; exact ⟨key, rfl⟩
        · subst hj; exact h4.1 _ (List.mem_of_getElem? hx)
    · rw [Array.toList_modify]
      have := (findNow_mod (x := x) key' h4.1 h).2
      simp only [Nat.sub_zero] at this
      rw [this]
      by_cases hk' : key' = key
      · subst hk'; exact .inr ⟨i, x, by simp, by simp⟩
      · simp only [if_neg hk']
        exact h4.2 key'
end
end Go.Ab

namespace Go.Md
open Go.Ab

structure Unt where
  kind : Int
  page : Int
  frame : Int
  data : By
  deriving DecidableEq, Inhabited

def rUnt : Rep Unt where
  n := 4
  rel := fun H A cs s => ∃ v, cs = [.int .u8 s.kind, .int .i64 s.page, .int .i64 s.frame, v] ∧ Sl rU8 H A v s.data
  len := by rintro _ _ _ _ ⟨v, rfl, _⟩; rfl
  okc := by rintro _ _ _ _ ⟨v, rfl, h⟩; simp only [List.all_cons, List.all_nil, h.okcv]; rfl
  fr := by rintro _ _ _ _ _ _ ⟨v, rfl, h⟩ hb; exact ⟨v, rfl, h.fr hb⟩

def mayU (c : Cfg) (u : Unt) : Bool :=
  if u.kind = 0 then decide (u.page = 0 ∧ u.data.length = 0)
  else if u.kind = 1 then decide ((0 ≤ u.page ∧ u.page < c.pages) ∧ u.data.length = 0)
  else if u.kind = 2 then decide ((0 ≤ u.page ∧ u.page < c.pages) ∧ (u.data.length : Int) = c.size) else false

/-- A page's block, so many levels up. -/
def pAt (fan : Int) : Nat → Int → Int
  | 0, p => p
  | i + 1, p => (pAt fan i p).tdiv fan
theorem pAt_le {fan p : Int} (hf : 2 ≤ fan) (hp : 0 ≤ p) : ∀ i, 0 ≤ pAt fan i p ∧ pAt fan i p ≤ p
  | 0 => ⟨hp, Int.le_refl _⟩
  | i + 1 => by
    obtain ⟨h1, h2⟩ := pAt_le hf hp i
    unfold pAt
    rw [Int.tdiv_eq_ediv_of_nonneg h1]
    refine ⟨Int.ediv_nonneg h1 (by omega), Int.le_trans ?_ h2⟩
    exact Int.ediv_le_self _ h1
def blocks (c : Cfg) (p : Int) : List Int := (List.range c.all.length).map fun i => pAt c.fan i p
def places (c : Cfg) (p : Int) : List Int := (List.range c.all.length).map fun i => if i + 1 = c.all.length then pAt c.fan i p else (pAt c.fan i p).tmod c.fan
theorem blocks_get {c : Cfg} {p : Int} {i : Nat} (h : i < c.all.length) : (blocks c p)[i]? = some (pAt c.fan i p) := by unfold blocks; simp [h]
def roadE (c : Cfg) (p : Int) : Int := if c.may then (if p < 0 ∨ p ≥ c.pages then 261 else 0) else 8

/-- The error of a config and units. -/
def unitsE (c : Cfg) (l : List Unt) : Int := if c.may then (if l.length > 512 then 4 else if l.all (mayU c) then 0 else 2) else 8
/-- The block of a unit at a level; below 0: it has none. -/
def blkU (c : Cfg) (i : Nat) (u : Unt) : Int := if u.kind = 0 then -1 else pAt c.fan i u.page
def lastIdx (f : Nat → Int) (b : Int) : Nat → Option Nat
  | 0 => none
  | t + 1 => if f t = b then some t else lastIdx f b t
/-- The cell that is told at a tick, by the block of each tick. -/
def toldF (f : Nat → Int) (t : Nat) : Int := if f t < 0 then 2 * t + 1 else match lastIdx f (f t) t with | some j => 2 * (j : Int) | none => 2 * t + 1
def blkAt (c : Cfg) (l : List Unt) (i : Nat) (t : Nat) : Int := blkU c i (l.getD t default)
def toldL (c : Cfg) (l : List Unt) (i : Nat) : List Int := (List.range l.length).map fun t => toldF (blkAt c l i) t
def cellsL (c : Cfg) (l : List Unt) : List (List Int) := (List.range c.all.length).map fun i => toldL c l i
def restN (told : List Int) : List Nat := (List.range (2 * told.length)).filter fun n => !told.contains (n : Int)
def restL (told : List Int) : List Int := (restN told).map Int.ofNat
def weave : List Int → List Int → List Int
  | a :: as, b :: bs => a :: b :: weave as bs
  | _, _ => []
def permL (told : List Int) : List Int := weave told (restL told)

theorem lastIdx_some {f : Nat → Int} {b : Int} : ∀ {t j : Nat}, lastIdx f b t = some j → j < t ∧ f j = b ∧ ∀ k, j < k → k < t → f k ≠ b
  | 0, j, h => by cases h
  | t + 1, j, h => by
    unfold lastIdx at h
    split at h
    · cases h; exact ⟨by omega, by assumption, fun k h1 h2 => by omega⟩
    · rename_i hne
      obtain ⟨h1, h2, h3⟩ := lastIdx_some h
      refine ⟨by omega, h2, fun k hk1 hk2 => ?_⟩
      rcases Nat.lt_or_ge k t with h | h
      · exact h3 k hk1 h
      · rw [show k = t from by omega]; exact hne
theorem lastIdx_none {f : Nat → Int} {b : Int} : ∀ {t : Nat}, lastIdx f b t = none → ∀ k, k < t → f k ≠ b
  | 0, _, k, h => by omega
  | t + 1, h, k, hk => by
    unfold lastIdx at h
    split at h
    · cases h
    · rename_i hne
      rcases Nat.lt_or_ge k t with h' | h'
      · exact lastIdx_none h k h'
      · rw [show k = t from by omega]; exact hne

theorem told_cases (f : Nat → Int) (t : Nat) : toldF f t = 2 * t + 1 ∨ ∃ j, j < t ∧ toldF f t = 2 * (j : Int) ∧ f j = f t ∧ ∀ k, j < k → k < t → f k ≠ f t := by
  unfold toldF
  split
  · exact .inl rfl
  · split
    · rename_i j h
      obtain ⟨h1, h2, h3⟩ := lastIdx_some h
      exact .inr ⟨j, h1, rfl, h2, h3⟩
    · exact .inl rfl
theorem told_range {f : Nat → Int} {t : Nat} : 0 ≤ toldF f t ∧ toldF f t ≤ 2 * t + 1 := by
  rcases told_cases f t with h | ⟨j, h1, h2, _⟩ <;> omega
/-- No cell is told twice. -/
theorem told_inj {f : Nat → Int} {s t : Nat} (hlt : s < t) : toldF f s ≠ toldF f t := by
  rcases told_cases f s with h | ⟨j, h1, h2, h3, h4⟩ <;> rcases told_cases f t with h' | ⟨j', h1', h2', h3', h4'⟩
  · omega
  · omega
  · omega
  · intro e
    have : j = j' := by omega
    subst this
    exact h4' s h1 hlt (by rw [← h3, h3'])

end Go.Md
