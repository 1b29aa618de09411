/- Crashes in plain Lean: what buckets have, and how many versions there are. -/
import Derived.Test.YtelfpkegpffajaaMdHarm2
set_option linter.unusedVariables false
set_option linter.unusedSimpArgs false
namespace Go.Hd
open Go.Ab Go.Md

theorem behind_no : ∀ {l : List See} {d : Dv}, writesN l = 0 → behind d l = d
  | [], d, _ => rfl
  | s :: r, d, h => by
    rw [writesN_cons] at h
    have hk : s.kind ≠ 2 := fun e => by rw [if_pos e] at h; omega
    show behind (behind1 d s) r = d
    have h1 : behind1 d s = d := by unfold behind1; rw [if_neg hk]
    rw [h1]
    exact behind_no (by omega)

/-- A crash behind all writes. -/
theorem behind_first : ∀ {l : List See} {d : Dv}, behind d (firstW l (writesN l)) = behind d l
  | [], d => by cases h : writesN ([] : List See) <;> rfl
  | s :: r, d => by
    by_cases hk : s.kind = 2
    · have : writesN (s :: r) = writesN r + 1 := by rw [writesN_cons, if_pos hk]
      rw [this]
      show behind d (s :: firstW r (if s.kind = 2 then writesN r else writesN r + 1)) = behind (behind1 d s) r
      rw [if_pos hk]
      exact behind_first
    · have h0 : writesN (s :: r) = writesN r := by rw [writesN_cons, if_neg hk]; rfl
      rw [h0]
      cases hw : writesN r with
      | zero =>
        rw [firstW_zero]
        exact (behind_no (by rw [h0, hw])).symm
      | succ m =>
        show behind d (s :: firstW r (if s.kind = 2 then m else m + 1)) = behind (behind1 d s) r
        rw [if_neg hk, ← hw]
        exact behind_first

/-- Does a thing seen lie in a device? -/
def Rng (d : Dv) (s : See) : Prop := (0 ≤ s.level ∧ s.level < d.length) ∧ (1 ≤ s.bucket ∧ s.bucket ≤ (lvlOf d s.level).length)
theorem Rng.like {d e : Dv} {s : See} (h : Rng d s) (hl : Like d e) : Rng e s := ⟨⟨h.1.1, by have := hl.1; have := h.1; omega⟩, ⟨h.2.1, by have := hl.2 s.level h.1.1; have := h.2; omega⟩⟩

theorem like_behind1 {d : Dv} {s : See} (h : Rng d s) : Like d (behind1 d s) := by
  unfold behind1
  split
  · exact like_put h.1
  · exact Like.rfl' d

theorem vers_cons (s : See) (r : List See) (level b : Int) : versL (s :: r) level b = (if isW level b s then [s.bytes] else []) ++ versL r level b := by
  unfold versL
  rw [List.filter_cons]
  split <;> simp

/-- A bucket has what it had, or one of its versions. -/
theorem behind_has {i k : Int} (hi : 0 ≤ i) (hk : 1 ≤ k) : ∀ {ss : List See} {d : Dv}, (∀ s ∈ ss, Rng d s) → bk (behind d ss) i k = bk d i k ∨ bk (behind d ss) i k ∈ versL ss i k
  | [], d, _ => .inl rfl
  | s :: r, d, h => by
    have hs := h s (by simp)
    show bk (behind (behind1 d s) r) i k = _ ∨ bk (behind (behind1 d s) r) i k ∈ _
    rw [vers_cons]
    rcases behind_has hi hk (ss := r) (d := behind1 d s) (fun s' h' => (h s' (by simp [h'])).like (like_behind1 hs)) with e | e
    · rw [e]
      unfold behind1
      split
      · rename_i k2
        rw [bk_put hs.1 hs.2 hi hk]
        split
        · rename_i he
          right
          have : isW i k s = true := by unfold isW; simp [k2, he.1, he.2]
          rw [this]; simp
        · exact .inl rfl
      · exact .inl rfl
    · exact .inr (List.mem_append_right _ e)

theorem like_behind : ∀ {ss : List See} {d : Dv}, (∀ s ∈ ss, Rng d s) → Like d (behind d ss)
  | [], d, _ => Like.rfl' d
  | s :: r, d, h => by
    have hs := like_behind1 (h s (by simp))
    exact hs.trans (like_behind fun s' h' => (h s' (by simp [h'])).like hs)

theorem vers_first {l : List See} {n : Nat} {i k : Int} {x : By} (h : x ∈ versL (firstW l n) i k) : x ∈ versL l i k := by
  unfold versL at h ⊢
  obtain ⟨s, hs, rfl⟩ := List.mem_map.1 h
  obtain ⟨h1, h2⟩ := List.mem_filter.1 hs
  exact List.mem_map.2 ⟨s, List.mem_filter.2 ⟨firstW_sub s h1, h2⟩, rfl⟩

/-- Noughts. -/
theorem blank_bk {c : Cfg} {i k : Int} : ∃ n, bk (blankD c) i k = List.replicate n 0 := by
  unfold bk lvlOf blankD
  rw [List.getD_eq_getElem?_getD, List.getD_eq_getElem?_getD, List.getElem?_map]
  cases c.all[i.toNat]? with
  | none => exact ⟨0, by simp⟩
  | some l =>
    simp only [Option.map_some, Option.getD_some, List.getElem?_replicate]
    split
    · exact ⟨_, rfl⟩
    · exact ⟨0, rfl⟩

/-! ### How many versions there are -/

/-- Of a level's first buckets. -/
def cnt (l : List See) (i : Nat) : Nat → Nat
  | 0 => 0
  | n + 1 => cnt l i n + (versL l i (n + 1 : Nat)).length
/-- Of the first levels. -/
def tot (l : List See) (d : Dv) : Nat → Nat
  | 0 => 0
  | m + 1 => tot l d m + cnt l m (lvlOf d (m : Int)).length

theorem cnt_le (l : List See) (i : Nat) : ∀ n, cnt l i n ≤ n * l.length
  | 0 => by simp [cnt]
  | n + 1 => by
    have h1 := cnt_le l i n
    have h2 := versL_len (l := l) (level := (i : Int)) (b := ((n + 1 : Nat) : Int))
    show cnt l i n + (versL l i (n + 1 : Nat)).length ≤ _
    rw [Nat.add_mul]; omega
theorem tot_le (l : List See) (d : Dv) (hd : Mid d) : ∀ m, tot l d m ≤ m * (1000 * l.length)
  | 0 => by simp [tot]
  | m + 1 => by
    have h1 := tot_le l d hd m
    have h2 := cnt_le l m (lvlOf d (m : Int)).length
    have h3 : (lvlOf d (m : Int)).length ≤ 1000 := by
      unfold lvlOf
      rw [List.getD_eq_getElem?_getD]
      cases hx : d[(m : Int).toNat]? with
      | none => simp
      | some z => exact (hd.2 z (List.mem_of_getElem? hx)).1
    have h4 := Nat.mul_le_mul_right l.length h3
    show tot l d m + cnt l m (lvlOf d (m : Int)).length ≤ _
    rw [Nat.add_mul]; omega

theorem cnt_cons (s : See) (r : List See) (i : Nat) : ∀ n, cnt (s :: r) i n = cnt r i n + (if s.kind = 2 ∧ s.level = (i : Int) ∧ 1 ≤ s.bucket ∧ s.bucket ≤ (n : Int) then 1 else 0)
  | 0 => by
    show 0 = 0 + _
    rw [if_neg (by omega)]
  | n + 1 => by
    show cnt (s :: r) i n + (versL (s :: r) i (n + 1 : Nat)).length = cnt r i n + (versL r i (n + 1 : Nat)).length + _
    rw [cnt_cons s r i n, vers_cons, List.length_append]
    have hw : (if isW (i : Int) ((n + 1 : Nat) : Int) s then [s.bytes] else []).length = if s.kind = 2 ∧ s.level = (i : Int) ∧ s.bucket = ((n + 1 : Nat) : Int) then 1 else 0 := by
      unfold isW
      by_cases h1 : s.kind = 2 <;> by_cases h2 : s.level = (i : Int) <;> by_cases h3 : s.bucket = ((n + 1 : Nat) : Int) <;> simp [h1, h2, h3]
      all_goals (push_cast at h3 ⊢; first | rfl | simp_all | omega)
    rw [hw]
    by_cases h1 : s.kind = 2 ∧ s.level = (i : Int)
    · obtain ⟨h1, h2⟩ := h1
      by_cases h3 : s.bucket = ((n + 1 : Nat) : Int)
      · rw [if_neg (by omega), if_pos ⟨h1, h2, h3⟩, if_pos (by omega)]; omega
      · by_cases h4 : 1 ≤ s.bucket ∧ s.bucket ≤ (n : Int)
        · rw [if_pos (by omega), if_neg (by omega), if_pos (by omega)]; omega
        · rw [if_neg (by omega), if_neg (by omega), if_neg (by omega)]; omega
    · rw [if_neg (by omega), if_neg (by omega), if_neg (by omega)]; omega

theorem tot_cons (s : See) (r : List See) (d : Dv) : ∀ m, tot (s :: r) d m = tot r d m + (if s.kind = 2 ∧ (0 ≤ s.level ∧ s.level < (m : Int)) ∧ 1 ≤ s.bucket ∧ s.bucket ≤ ((lvlOf d s.level).length : Int) then 1 else 0)
  | 0 => by
    show 0 = 0 + _
    rw [if_neg (by omega)]
  | m + 1 => by
    show tot (s :: r) d m + cnt (s :: r) m (lvlOf d (m : Int)).length = tot r d m + cnt r m (lvlOf d (m : Int)).length + _
    rw [tot_cons s r d m, cnt_cons]
    by_cases h2 : s.level = (m : Int)
    · rw [h2]
      by_cases h1 : s.kind = 2 ∧ 1 ≤ s.bucket ∧ s.bucket ≤ ((lvlOf d (m : Int)).length : Int)
      · rw [if_neg (by omega), if_pos (by omega), if_pos (by omega)]; omega
      · rw [if_neg (by omega), if_neg (by omega), if_neg (by omega)]; omega
    · by_cases h1 : s.kind = 2 ∧ (0 ≤ s.level ∧ s.level < (m : Int)) ∧ 1 ≤ s.bucket ∧ s.bucket ≤ ((lvlOf d s.level).length : Int)
      · rw [if_pos h1, if_neg (by omega), if_pos (by omega)]; omega
      · rw [if_neg h1, if_neg (by omega), if_neg (by omega)]; omega

/-- As many versions as writes. -/
theorem tot_all {d : Dv} : ∀ {l : List See}, (∀ s ∈ l, Rng d s) → tot l d d.length = writesN l
  | [], _ => by
    have h : ∀ i n, cnt [] i n = 0 := fun i n => by have := cnt_le [] i n; simpa using this
    have : ∀ m, tot [] d m = 0 := fun m => by
      induction m with
      | zero => rfl
      | succ m ih => show tot [] d m + cnt [] m _ = 0; rw [ih, h]
    rw [this]; rfl
  | s :: r, h => by
    obtain ⟨h1, h2⟩ := h s (by simp)
    rw [tot_cons, tot_all fun s' h' => h s' (by simp [h']), writesN_cons]
    congr 1
    by_cases hk : s.kind = 2
    · rw [if_pos ⟨hk, h1, h2⟩, if_pos hk]
    · rw [if_neg (fun hh => hk hh.1), if_neg hk]

end Go.Hd
