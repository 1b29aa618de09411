/- Blocks and stashes, in plain Lean. -/
import Derived.Test.YtlmpjhbfgakgdaaDoorMdDev
import Derived.Test.YtlmpjhbfgakgdaaDoorAbMore
set_option linter.unusedVariables false
set_option linter.unusedSimpArgs false
namespace Go.Md
open Go.Ab

structure Blk where
  id : Int
  leaf : Int
  data : By
  deriving DecidableEq, Inhabited

def rBlk : Rep Blk where
  n := 3
  rel := fun H A cs s => ∃ v, cs = [.int .i64 s.id, .int .i64 s.leaf, v] ∧ Sl rU8 H A v s.data
  len := by rintro _ _ _ _ ⟨v, rfl, _⟩; rfl
  okc := by rintro _ _ _ _ ⟨v, rfl, h⟩; simp only [List.all_cons, List.all_nil, h.okcv]; rfl
  fr := by rintro _ _ _ _ _ _ ⟨v, rfl, h⟩ hb; exact ⟨v, rfl, h.fr hb⟩

/-- How many slots a level's buckets have; 0: the level may not be. -/
def slotsL (l : Lvl) : Int :=
  if (1 ≤ l.blocks ∧ l.blocks ≤ 64) ∧ (1 ≤ l.size ∧ l.size ≤ 32) ∧ (1 ≤ l.high ∧ l.high ≤ 6) ∧ l.blocks ≤ many l.high then
    if l.width = 1 * (8 + l.size) + 64 then 1 else if l.width = 2 * (8 + l.size) + 64 then 2 else if l.width = 3 * (8 + l.size) + 64 then 3 else if l.width = 4 * (8 + l.size) + 64 then 4 else 0
  else 0
/-- May a block be, of a level that may be? -/
def blkMay (l : Lvl) (b : Blk) : Bool := decide ((0 ≤ b.id ∧ b.id < l.blocks) ∧ (0 ≤ b.leaf ∧ b.leaf < many l.high) ∧ (b.data.length : Int) = l.size)
def blkE (l : Lvl) (b : Blk) : Int := if slotsL l < 1 then 8 else if blkMay l b then 0 else 8

def rising : List Blk → Bool
  | [] => true
  | [_] => true
  | a :: b :: s => decide (a.id < b.id) && rising (b :: s)
def stMay (l : Lvl) (s : List Blk) : Bool := s.all (blkMay l) && rising s
def stE (l : Lvl) (s : List Blk) : Int := if slotsL l < 1 then 8 else if stMay l s then 0 else 8

def below (s : List Blk) (n : Int) : List Blk := s.filter fun b => b.id < n
def above (s : List Blk) (n : Int) : List Blk := s.filter fun b => n < b.id
def hasB (s : List Blk) (n : Int) : Bool := s.any fun b => b.id == n
/-- A stash with a block, in the place of its old one. -/
def withB (s : List Blk) (b : Blk) : List Blk := below s b.id ++ b :: above s b.id
def withoutB (s : List Blk) (n : Int) : List Blk := s.filter fun b => b.id != n
def findB (s : List Blk) (n : Int) : Option Blk := s.find? fun b => b.id == n

def putE (l : Lvl) (s : List Blk) (b : Blk) : Int := if stE l s = 0 ∧ blkE l b = 0 then 0 else 8
def dropE (l : Lvl) (s : List Blk) (n : Int) : Int := if stE l s = 0 then (if hasB s n then 0 else 6) else 8
def addF (l : Lvl) : List Blk → List Blk → Option (List Blk)
  | s, [] => some s
  | s, b :: more => if blkMay l b && !hasB s b.id then addF l (withB s b) more else none

theorem rising_iff : ∀ {s : List Blk}, rising s = true ↔ s.Pairwise fun a b => a.id < b.id
  | [] => by simp [rising]
  | [_] => by simp [rising]
  | a :: b :: s => by
    unfold rising
    rw [Bool.and_eq_true, rising_iff, List.pairwise_cons (a := a), decide_eq_true_eq]
    constructor
    · rintro ⟨h1, h2⟩
      refine ⟨fun x hx => ?_, h2⟩
      rcases List.mem_cons.1 hx with rfl | hx
      · exact h1
      · have := (List.pairwise_cons.1 h2).1 x hx; omega
    · rintro ⟨h1, h2⟩
      exact ⟨h1 b List.mem_cons_self, h2⟩

/-- A list that rises has what is below first. -/
theorem part_mono {α : Type} {R : α → α → Prop} {p : α → Bool} (h : ∀ a b, R a b → p b = true → p a = true) : ∀ {s : List α}, s.Pairwise R → s = s.filter p ++ s.filter fun x => !p x
  | [], _ => rfl
  | a :: s, hs => by
    rw [List.pairwise_cons] at hs
    cases hp : p a with
    | true =>
      have := part_mono h hs.2
      simp only [List.filter_cons, hp, if_true, Bool.not_true, Bool.false_eq_true, if_false, List.cons_append]
      rw [← this]
    | false =>
      have hno : ∀ b ∈ s, p b = false := fun b hb => by
        cases hpb : p b with
        | false => rfl
        | true => rw [h a b (hs.1 b hb) hpb] at hp; cases hp
      have e1 : s.filter p = [] := List.filter_eq_nil_iff.2 fun b hb => by rw [hno b hb]; simp
      have e2 : (s.filter fun x => !p x) = s := List.filter_eq_self.2 fun b hb => by rw [hno b hb]; rfl
      simp only [List.filter_cons, hp, Bool.false_eq_true, if_false, Bool.not_false, if_true, e1, e2, List.nil_append]

theorem below_part {s : List Blk} (h : s.Pairwise fun a b => a.id < b.id) (n : Int) : s = below s n ++ s.filter fun b => !decide (b.id < n) :=
  part_mono (R := fun a b : Blk => a.id < b.id) (p := fun b : Blk => decide (b.id < n)) (fun a b hab hb => by have hab' : a.id < b.id := hab; have := of_decide_eq_true hb; exact decide_eq_true (by omega)) h

/-- The place of a number, or where it would be. -/
def placeB (s : List Blk) (n : Int) : Nat := (below s n).length
theorem place_lt {s : List Blk} (h : s.Pairwise fun a b => a.id < b.id) {n : Int} {j : Nat} {b : Blk} (hb : s[j]? = some b) : j < placeB s n ↔ b.id < n := by
  have hp := below_part h n
  unfold placeB
  constructor
  · intro hj
    rw [hp, List.getElem?_append_left hj] at hb
    have := List.mem_of_getElem? hb
    unfold below at this
    simpa using (List.mem_filter.1 this).2
  · intro hlt
    rcases Nat.lt_or_ge j (below s n).length with h' | h'
    · exact h'
    · rw [hp, List.getElem?_append_right h'] at hb
      have := (List.mem_filter.1 (List.mem_of_getElem? hb)).2
      simp at this
      omega
theorem place_le {s : List Blk} {n : Int} : placeB s n ≤ s.length := List.length_filter_le _ _
theorem hasB_iff {s : List Blk} {n : Int} : hasB s n = true ↔ ∃ b ∈ s, b.id = n := by unfold hasB; simp
theorem hasB_place {s : List Blk} (h : s.Pairwise fun a b => a.id < b.id) {n : Int} : hasB s n = true ↔ ∃ b, s[placeB s n]? = some b ∧ b.id = n := by
  rw [hasB_iff]
  constructor
  · rintro ⟨b, hb, rfl⟩
    obtain ⟨j, hj⟩ := List.mem_iff_getElem?.1 hb
    have h1 : ¬ j < placeB s b.id := fun hlt => by have := (place_lt h hj).1 hlt; omega
    rcases Nat.lt_or_ge (placeB s b.id) j with h2 | h2
    · have hl := (List.getElem?_eq_some_iff.1 hj).1
      have hk : s[placeB s b.id]? = some s[placeB s b.id] := List.getElem?_eq_getElem (by omega)
      have h3 : ¬ s[placeB s b.id].id < b.id := fun hlt => by have := (place_lt h hk).2 hlt; omega
      have h4 := List.pairwise_iff_getElem.1 h (placeB s b.id) j (by omega) hl h2
      have h5 : s[j] = b := (List.getElem?_eq_some_iff.1 hj).2
      rw [h5] at h4
      omega
    · exact ⟨b, by rw [show placeB s b.id = j by omega]; exact hj, rfl⟩
  · rintro ⟨b, hb, rfl⟩
    exact ⟨b, List.mem_of_getElem? hb, rfl⟩


def atOrAbove (s : List Blk) (n : Int) : List Blk := s.filter fun b => !decide (b.id < n)
abbrev Up (s : List Blk) : Prop := s.Pairwise fun a b => a.id < b.id

theorem above_of {s : List Blk} {n : Int} : above s n = (atOrAbove s n).filter fun b => decide (n < b.id) := by
  unfold above atOrAbove
  rw [List.filter_filter]
  apply List.filter_congr
  intro b _
  by_cases h : n < b.id
  · simp [h]; omega
  · simp [h]
theorem place_split {s : List Blk} (h : Up s) (n : Int) : s.take (placeB s n) = below s n ∧ s.drop (placeB s n) = atOrAbove s n := by
  have hp := below_part h n
  change s = below s n ++ atOrAbove s n at hp
  unfold placeB
  constructor
  · conv => lhs; arg 2; rw [hp]
    rw [List.take_left]
  · conv => lhs; arg 2; rw [hp]
    rw [List.drop_left]
theorem ge_has {s : List Blk} (h : Up s) {n : Int} {b : Blk} (hb : s[placeB s n]? = some b) (he : b.id = n) : atOrAbove s n = b :: above s n := by
  rw [above_of]
  have hu : Up (atOrAbove s n) := h.filter _
  have hb : (atOrAbove s n)[0]? = some b := by rw [← (place_split h n).2, List.getElem?_drop]; simpa using hb
  cases hg : atOrAbove s n with
  | nil => rw [hg] at hb; simp at hb
  | cons x r =>
    rw [hg] at hb hu
    simp at hb
    subst hb
    rw [List.filter_cons, if_neg (by simp; omega), List.filter_eq_self.2]
    intro y hy
    have := (List.pairwise_cons.1 hu).1 y hy
    simp; omega
theorem ge_no {s : List Blk} {n : Int} (hb : hasB s n = false) : atOrAbove s n = above s n := by
  unfold atOrAbove above
  apply List.filter_congr
  intro b hm
  have : b.id ≠ n := fun e => by
    have : hasB s n = true := hasB_iff.2 ⟨b, hm, e⟩
    rw [hb] at this; cases this
  by_cases h : b.id < n
  · simp [h]; omega
  · simp [h]; omega
theorem put_set {s : List Blk} (h : Up s) {b : Blk} (hb : hasB s b.id = true) : s.set (placeB s b.id) b = withB s b := by
  obtain ⟨x, hx, he⟩ := (hasB_place h).1 hb
  have hlt := (List.getElem?_eq_some_iff.1 hx).1
  obtain ⟨h1, h2⟩ := place_split h b.id
  rw [ge_has h hx he] at h2
  rw [List.set_eq_take_append_cons_drop, if_pos hlt, h1]
  unfold withB
  congr 2
  rw [← List.drop_drop, h2]
  rfl
theorem put_ins {s : List Blk} (h : Up s) {b : Blk} (hb : hasB s b.id = false) : s.take (placeB s b.id) ++ [b] ++ s.drop (placeB s b.id) = withB s b := by
  obtain ⟨h1, h2⟩ := place_split h b.id
  rw [h1, h2, ge_no hb]
  unfold withB
  simp
theorem without_of {s : List Blk} (h : Up s) (n : Int) : withoutB s n = below s n ++ above s n := by
  have hp := below_part h n
  change s = below s n ++ atOrAbove s n at hp
  unfold withoutB
  conv => lhs; arg 2; rw [hp]
  rw [List.filter_append, above_of]
  congr 1
  · rw [List.filter_eq_self]
    intro b hb
    have := (List.mem_filter.1 hb).2
    simp at this ⊢
    omega
  · apply List.filter_congr
    intro b hb
    have := (List.mem_filter.1 hb).2
    simp at this
    by_cases e : n < b.id
    · simp [e]; omega
    · simp [e]; omega
theorem drop_del {s : List Blk} (h : Up s) {n : Int} (hb : hasB s n = true) : s.take (placeB s n) ++ s.drop (placeB s n + 1) = withoutB s n := by
  obtain ⟨x, hx, he⟩ := (hasB_place h).1 hb
  obtain ⟨h1, h2⟩ := place_split h n
  rw [ge_has h hx he] at h2
  rw [without_of h, h1, ← List.drop_drop, h2]
  rfl
theorem withB_up {s : List Blk} (h : Up s) (b : Blk) : Up (withB s b) := by
  unfold withB
  have h1 : Up (below s b.id) := h.filter _
  have h2 : Up (above s b.id) := h.filter _
  refine List.pairwise_append.2 ⟨h1, List.pairwise_cons.2 ⟨fun y hy => ?_, h2⟩, fun x hx y hy => ?_⟩
  · have := (List.mem_filter.1 hy).2; simpa using this
  · have e1 := (List.mem_filter.1 hx).2
    simp at e1
    rcases List.mem_cons.1 hy with rfl | hy
    · exact e1
    · have e2 := (List.mem_filter.1 hy).2
      simp at e2
      omega
theorem mem_withB {s : List Blk} {b x : Blk} (h : x ∈ withB s b) : x = b ∨ x ∈ s := by
  unfold withB at h
  rw [List.mem_append, List.mem_cons] at h
  rcases h with h | h | h
  · exact .inr ((List.mem_filter.1 h).1)
  · exact .inl h
  · exact .inr ((List.mem_filter.1 h).1)
theorem withB_len {s : List Blk} {b : Blk} (h : Up s) : (withB s b).length ≤ s.length + 1 := by
  have hp := congrArg List.length (below_part h b.id)
  have h1 := List.length_filter_le (fun x : Blk => decide (b.id < x.id)) (atOrAbove s b.id)
  rw [← above_of] at h1
  unfold atOrAbove at h1
  rw [List.length_append] at hp
  unfold withB
  rw [List.length_append, List.length_cons]
  omega
theorem stMay_up {l : Lvl} {s : List Blk} (h : stMay l s = true) : Up s := by
  unfold stMay at h
  rw [Bool.and_eq_true] at h
  exact rising_iff.1 h.2
theorem stMay_mem {l : Lvl} {s : List Blk} (h : stMay l s = true) : ∀ b ∈ s, blkMay l b = true := by
  unfold stMay at h
  rw [Bool.and_eq_true] at h
  exact List.all_eq_true.1 h.1
theorem stMay_iff {l : Lvl} {s : List Blk} : stMay l s = true ↔ (∀ b ∈ s, blkMay l b = true) ∧ Up s := by
  unfold stMay
  rw [Bool.and_eq_true, List.all_eq_true, rising_iff]
theorem find_of {s : List Blk} (h : Up s) {b : Blk} (hb : b ∈ s) : findB s b.id = some b := by
  unfold findB
  induction s with
  | nil => cases hb
  | cons x s ih =>
    rw [List.find?_cons]
    rcases List.mem_cons.1 hb with rfl | hm
    · simp
    · have := (List.pairwise_cons.1 h).1 b hm
      rw [show (x.id == b.id) = false by simp; omega]
      exact ih (List.pairwise_cons.1 h).2 hm

/-- As the reference puts a block in. -/
def withF : Bool → List Blk → Blk → List Blk
  | d, [], b => if d then [] else [b]
  | d, x :: s, b => (if !d && decide (b.id ≤ x.id) then [b] else []) ++ (if x.id ≠ b.id then [x] else []) ++ withF (d || decide (b.id ≤ x.id)) s b
theorem withF_true {b : Blk} : ∀ {s : List Blk}, (∀ x ∈ s, b.id < x.id) → withF true s b = s
  | [], _ => rfl
  | x :: s, h => by
    have h1 := h x List.mem_cons_self
    unfold withF
    rw [Bool.true_or, withF_true (fun y hy => h y (List.mem_cons_of_mem _ hy))]
    rw [if_pos (show x.id ≠ b.id by omega)]
    simp
theorem withF_up {b : Blk} : ∀ {s : List Blk}, Up s → withF false s b = withB s b
  | [], _ => rfl
  | x :: s, h => by
    have hx := (List.pairwise_cons.1 h).1
    have hs := (List.pairwise_cons.1 h).2
    unfold withF withB below above
    rcases Int.lt_trichotomy x.id b.id with h1 | h1 | h1
    · have e1 : decide (b.id ≤ x.id) = false := decide_eq_false (by omega)
      rw [e1, if_pos (show x.id ≠ b.id by omega)]
      have := withF_up (b := b) hs
      unfold withB below above at this
      simp only [Bool.false_or, Bool.and_false, Bool.false_eq_true, if_false, List.nil_append, this]
      rw [List.filter_cons, if_pos (by simpa using h1), List.filter_cons, if_neg (by simp; omega)]
      rfl
    · have e1 : decide (b.id ≤ x.id) = true := decide_eq_true (by omega)
      have e2 : ∀ y ∈ s, b.id < y.id := fun y hy => by have := hx y hy; omega
      rw [e1, if_neg (show ¬ x.id ≠ b.id by omega)]
      simp only [Bool.false_or, Bool.not_false, Bool.and_true, if_true, List.append_nil]
      rw [withF_true e2, List.filter_cons, if_neg (by simp; omega), List.filter_cons, if_neg (by simp; omega), List.filter_eq_nil_iff.2 (fun y hy => by have := e2 y hy; simp; omega), List.filter_eq_self.2 (fun y hy => by have := e2 y hy; simp; omega)]
      rfl
    · have e1 : decide (b.id ≤ x.id) = true := decide_eq_true (by omega)
      have e2 : ∀ y ∈ s, b.id < y.id := fun y hy => by have := hx y hy; omega
      rw [e1, if_pos (show x.id ≠ b.id by omega)]
      simp only [Bool.false_or, Bool.not_false, Bool.and_true, if_true]
      rw [withF_true e2, List.filter_cons, if_neg (by simp; omega), List.filter_cons, if_pos (by simp; omega), List.filter_eq_nil_iff.2 (fun y hy => by have := e2 y hy; simp; omega), List.filter_eq_self.2 (fun y hy => by have := e2 y hy; simp; omega)]
      rfl

/-- As the reference adds blocks. -/
def moreF : List Blk → List Blk → Option (List Blk)
  | s, [] => some s
  | s, b :: more => if hasB s b.id then none else moreF (withB s b) more
theorem addF_may {l : Lvl} : ∀ {more s : List Blk}, (∀ b ∈ more, blkMay l b = true) → addF l s more = moreF s more
  | [], s, _ => rfl
  | b :: more, s, h => by
    unfold addF moreF
    rw [h b List.mem_cons_self]
    cases hb : hasB s b.id with
    | true => simp
    | false => simp; exact addF_may fun x hx => h x (List.mem_cons_of_mem _ hx)
theorem addF_none {l : Lvl} : ∀ {more s : List Blk}, (∃ b ∈ more, blkMay l b = false) → addF l s more = none
  | [], s, h => by obtain ⟨b, hb, _⟩ := h; cases hb
  | b :: more, s, h => by
    unfold addF
    split
    · rename_i hc
      rw [Bool.and_eq_true] at hc
      obtain ⟨x, hx, hf⟩ := h
      rcases List.mem_cons.1 hx with rfl | hx
      · rw [hf] at hc; cases hc.1
      · exact addF_none ⟨x, hx, hf⟩
    · rfl
def addE (l : Lvl) (s more : List Blk) : Int := if stE l s = 0 then (if (addF l s more).isSome then 0 else 8) else 8
def addV (l : Lvl) (s more : List Blk) : List Blk := if stE l s = 0 then (addF l s more).getD [] else []
def putV (l : Lvl) (s : List Blk) (b : Blk) : List Blk := if putE l s b = 0 then withB s b else []
def dropV (l : Lvl) (s : List Blk) (n : Int) : List Blk := if dropE l s n = 0 then withoutB s n else []
def blk0 : Blk := ⟨0, 0, []⟩
def findV (l : Lvl) (s : List Blk) (n : Int) : Blk := if stE l s = 0 then (findB s n).getD blk0 else blk0
def isV (l : Lvl) (s : List Blk) (n : Int) : Bool := decide (stE l s = 0) && hasB s n

theorem stE_0 {l : Lvl} {s : List Blk} : stE l s = 0 ↔ 1 ≤ slotsL l ∧ stMay l s = true := by
  unfold stE; split
  · omega
  · cases h : stMay l s <;> simp <;> omega
theorem blkE_0 {l : Lvl} {b : Blk} : blkE l b = 0 ↔ 1 ≤ slotsL l ∧ blkMay l b = true := by
  unfold blkE; split
  · omega
  · cases h : blkMay l b <;> simp <;> omega
theorem stE_8 {l : Lvl} {s : List Blk} (h : stE l s ≠ 0) : stE l s = 8 := by
  unfold stE at h ⊢; split
  · rfl
  · rename_i h1; rw [if_neg h1] at h; split
    · rename_i h2; rw [if_pos h2] at h; exact absurd rfl h
    · rfl

end Go.Md
