/- Orders of cells, in plain Lean. -/
import Derived.Test.YtikebhnnmnlgaaaMdOrd
set_option linter.unusedVariables false
set_option linter.unusedSimpArgs false
namespace Go.Md
open Go.Ab

/-- What is told may be told. -/
def TP (told : List Int) : Prop := (∀ x ∈ told, 0 ≤ x ∧ x < 2 * (told.length : Int)) ∧ told.Nodup

theorem toldL_len {c : Cfg} {l : List Unt} {i : Nat} : (toldL c l i).length = l.length := by unfold toldL; simp
theorem toldL_TP (c : Cfg) (l : List Unt) (i : Nat) : TP (toldL c l i) := by
  refine ⟨fun x hx => ?_, ?_⟩
  · rw [toldL_len]
    unfold toldL at hx
    obtain ⟨t, ht, rfl⟩ := List.mem_map.1 hx
    have := told_range (f := blkAt c l i) (t := t)
    rw [List.mem_range] at ht
    omega
  · unfold toldL
    rw [List.Nodup, List.pairwise_map]
    exact List.Pairwise.imp (fun {a b} (h : a < b) => told_inj h) List.pairwise_lt_range

theorem countP_or {α : Type} {p q : α → Bool} (hd : ∀ x, p x = true → q x = false) : ∀ l : List α, l.countP (fun x => p x || q x) = l.countP p + l.countP q
  | [] => rfl
  | x :: l => by
    rw [List.countP_cons, List.countP_cons, List.countP_cons, countP_or hd l]
    cases hp : p x with
    | true => rw [hd x hp]; simp; omega
    | false => cases q x <;> simp <;> omega
theorem countP_one (a : Nat) : ∀ N, (List.range N).countP (fun k => k == a) = if a < N then 1 else 0
  | 0 => by simp
  | N + 1 => by
    rw [List.range_succ, List.countP_append, countP_one a N]
    simp only [List.countP_singleton]
    by_cases h : N = a
    · subst h; simp
    · rw [show (N == a) = false from by simpa using h]
      by_cases h2 : a < N
      · rw [if_pos h2, if_pos (show a < N + 1 by omega)]; rfl
      · rw [if_neg h2, if_neg (show ¬ a < N + 1 by omega)]; rfl
theorem countP_mem (N : Nat) : ∀ T : List Int, (∀ x ∈ T, 0 ≤ x ∧ x < (N : Int)) → T.Nodup → (List.range N).countP (fun k : Nat => T.contains (k : Int)) = T.length
  | [], _, _ => by simp
  | a :: T, h, hd => by
    rw [List.nodup_cons] at hd
    have ha := h a List.mem_cons_self
    have e : (fun k : Nat => (a :: T).contains (k : Int)) = fun k : Nat => (k == a.toNat) || T.contains (k : Int) := by
      funext k
      rw [List.contains_cons]
      congr 1
      rw [Bool.eq_iff_iff]
      simp only [beq_iff_eq]
      omega
    rw [e, countP_or, countP_one, countP_mem N T (fun x hx => h x (List.mem_cons_of_mem _ hx)) hd.2, if_pos (by omega)]
    · simp; omega
    · intro x hx
      simp only [beq_iff_eq] at hx
      rw [hx, Int.toNat_of_nonneg ha.1]
      simpa using hd.1
theorem restN_len {told : List Int} (h : TP told) : (restN told).length = told.length := by
  have h1 := countP_mem (2 * told.length) told (fun x hx => by have := h.1 x hx; omega) h.2
  have h2 := countP_or (p := fun k : Nat => told.contains (k : Int)) (q := fun k : Nat => !told.contains (k : Int)) (fun x hx => by rw [hx]; rfl) (List.range (2 * told.length))
  have h3 : (List.range (2 * told.length)).countP (fun x : Nat => told.contains (x : Int) || !told.contains (x : Int)) = 2 * told.length := by
    rw [List.countP_eq_length.2 (fun a _ => by simp), List.length_range]
  unfold restN
  rw [← List.countP_eq_length_filter]
  omega
theorem restL_len {told : List Int} (h : TP told) : (restL told).length = told.length := by unfold restL; rw [List.length_map, restN_len h]

/-- The next one that is not told. -/
theorem next_p {N : Nat} {p : Nat → Bool} {t : Nat} : ∀ (d r : Nat), N - r = d → r ≤ N → (List.range r).filter p = ((List.range N).filter p).take t → t < ((List.range N).filter p).length →
    ∃ m, r ≤ m ∧ m < N ∧ p m = true ∧ (∀ k, r ≤ k → k < m → p k = false) ∧ (List.range (m + 1)).filter p = ((List.range N).filter p).take (t + 1) ∧ ((List.range N).filter p)[t]? = some m
  | 0, r, hd, hr, he, ht => by
    have : r = N := by omega
    subst this
    have := congrArg List.length he
    rw [List.length_take] at this
    omega
  | d + 1, r, hd, hr, he, ht => by
    have hs : (List.range (r + 1)).filter p = (List.range r).filter p ++ if p r then [r] else [] := by
      rw [List.range_succ, List.filter_append]
      cases hp : p r <;> simp [hp]
    cases hp : p r with
    | true =>
      have hsplit : (List.range N).filter p = (List.range r).filter p ++ r :: ((List.range (N - (r + 1))).map (r + 1 + ·)).filter p := by
        conv => lhs; rw [show N = (r + 1) + (N - (r + 1)) by omega, List.range_add, List.filter_append, hs]
        simp [hp]
      have hlen : ((List.range r).filter p).length = t := by rw [he, List.length_take]; omega
      refine ⟨r, Nat.le_refl _, by omega, hp, fun k h1 h2 => by omega, ?_, ?_⟩
      · rw [hs, hp, hsplit, List.take_append, hlen]
        simp only [if_true]
        rw [List.take_of_length_le (by omega), show t + 1 - t = 1 by omega]
        rfl
      · rw [hsplit, List.getElem?_append_right (by omega), hlen, Nat.sub_self]; rfl
    | false =>
      rw [hp] at hs
      simp only [Bool.false_eq_true, if_false, List.append_nil] at hs
      obtain ⟨m, h1, h2, h3, h4, h5, h6⟩ := next_p d (r + 1) (by omega) (by omega) (by rw [hs, he]) ht
      refine ⟨m, by omega, h2, h3, fun k hk1 hk2 => ?_, h5, h6⟩
      by_cases hk : k = r
      · rw [hk, hp]
      · exact h4 k (by omega) hk2

theorem weave_snoc : ∀ {as bs : List Int} {a b : Int}, as.length = bs.length → weave (as ++ [a]) (bs ++ [b]) = weave as bs ++ [a, b]
  | [], [], a, b, _ => rfl
  | x :: as, y :: bs, a, b, h => by
    show x :: y :: weave (as ++ [a]) (bs ++ [b]) = x :: y :: (weave as bs ++ [a, b])
    rw [weave_snoc (by simpa using h)]
theorem weave_len : ∀ {as bs : List Int}, as.length = bs.length → (weave as bs).length = 2 * as.length
  | [], [], _ => rfl
  | x :: as, y :: bs, h => by
    show (weave as bs).length + 1 + 1 = 2 * (as.length + 1)
    rw [weave_len (by simpa using h)]; omega
theorem weave_even : ∀ {as bs : List Int} {t : Nat} {a : Int}, as.length = bs.length → as[t]? = some a → (weave as bs)[2 * t]? = some a
  | [], [], t, a, _, h => by simp at h
  | x :: as, y :: bs, 0, a, _, h => by simpa [weave] using h
  | x :: as, y :: bs, t + 1, a, hl, h => by
    show (x :: y :: weave as bs)[2 * t + 1 + 1]? = some a
    exact weave_even (by simpa using hl) (by simpa using h)
theorem weave_odd : ∀ {as bs : List Int} {t : Nat} {b : Int}, as.length = bs.length → bs[t]? = some b → (weave as bs)[2 * t + 1]? = some b
  | [], [], t, a, _, h => by simp at h
  | x :: as, y :: bs, 0, a, _, h => by simpa [weave] using h
  | x :: as, y :: bs, t + 1, a, hl, h => by
    show (x :: y :: weave as bs)[2 * t + 1 + 1 + 1]? = some a
    exact weave_odd (by simpa using hl) (by simpa using h)
theorem weave_mem : ∀ {as bs : List Int} {x : Int}, as.length = bs.length → (x ∈ weave as bs ↔ x ∈ as ∨ x ∈ bs)
  | [], [], x, _ => by simp [weave]
  | a :: as, b :: bs, x, h => by
    have := weave_mem (as := as) (bs := bs) (x := x) (by simpa using h)
    simp only [weave, List.mem_cons, this]
    constructor
    · rintro (h | h | h | h)
      · exact .inl (.inl h)
      · exact .inr (.inl h)
      · exact .inl (.inr h)
      · exact .inr (.inr h)
    · rintro ((h | h) | (h | h))
      · exact .inl h
      · exact .inr (.inr (.inl h))
      · exact .inr (.inl h)
      · exact .inr (.inr (.inr h))
theorem weave_nodup : ∀ {as bs : List Int}, as.length = bs.length → as.Nodup → bs.Nodup → (∀ x ∈ as, x ∉ bs) → (weave as bs).Nodup
  | [], [], _, _, _, _ => List.nodup_nil
  | a :: as, b :: bs, h, h1, h2, h3 => by
    have hl : as.length = bs.length := by simpa using h
    rw [List.nodup_cons] at h1 h2
    show (a :: b :: weave as bs).Nodup
    rw [List.nodup_cons, List.nodup_cons, List.mem_cons, weave_mem hl, weave_mem hl]
    have ha := h3 a List.mem_cons_self
    rw [List.mem_cons] at ha
    refine ⟨?_, ?_, weave_nodup hl h1.2 h2.2 fun x hx hb => h3 x (List.mem_cons_of_mem _ hx) (List.mem_cons_of_mem _ hb)⟩
    · rintro (h | h | h)
      · exact ha (.inl h)
      · exact h1.1 h
      · exact ha (.inr h)
    · rintro (h | h)
      · exact h3 b (List.mem_cons_of_mem _ h) List.mem_cons_self
      · exact h2.1 h

theorem restL_mem {told : List Int} {x : Int} : x ∈ restL told ↔ (0 ≤ x ∧ x < 2 * (told.length : Int)) ∧ x ∉ told := by
  unfold restL restN
  simp only [List.mem_map, List.mem_filter, List.mem_range]
  constructor
  · rintro ⟨n, ⟨h1, h2⟩, rfl⟩
    refine ⟨⟨by simp, by simp; omega⟩, ?_⟩
    simpa using h2
  · rintro ⟨⟨h1, h2⟩, h3⟩
    refine ⟨x.toNat, ⟨by omega, ?_⟩, by simp; omega⟩
    rw [Int.toNat_of_nonneg h1]
    simpa using h3
theorem restL_sorted (told : List Int) : (restL told).Pairwise (· < ·) := by
  unfold restL restN
  rw [List.pairwise_map]
  refine List.Pairwise.imp (R := (· < ·)) (fun {a b} (h : a < b) => ?_) (List.Pairwise.filter _ List.pairwise_lt_range)
  simpa using h

/-- An order has each cell once. -/
theorem permL_once {told : List Int} (h : TP told) : (permL told).length = 2 * told.length ∧ (permL told).Nodup ∧ ∀ x, x ∈ permL told ↔ 0 ≤ x ∧ x < 2 * (told.length : Int) := by
  have hl : told.length = (restL told).length := (restL_len h).symm
  refine ⟨weave_len hl, weave_nodup hl h.2 ?_ fun x hx hr => (restL_mem.1 hr).2 hx, fun x => ?_⟩
  · exact List.Pairwise.imp (fun {a b} (h : a < b) => by omega) (restL_sorted told)
  · unfold permL
    rw [weave_mem hl, restL_mem]
    constructor
    · rintro (h' | h')
      · exact h.1 x h'
      · exact h'.1
    · intro h'
      by_cases hx : x ∈ told
      · exact .inl hx
      · exact .inr ⟨h', hx⟩

end Go.Md
