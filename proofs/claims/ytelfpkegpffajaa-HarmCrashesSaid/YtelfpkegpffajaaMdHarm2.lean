/- Harms in plain Lean: what comes of one may be, and of two. -/
import Derived.Test.YtelfpkegpffajaaMdHarm
set_option linter.unusedVariables false
set_option linter.unusedSimpArgs false
namespace Go.Hd
open Go.Ab Go.Md

theorem lvlOf_other {d : Dv} {level m b : Int} {x : By} (h : 0 ≤ level) (hm : 0 ≤ m) (hne : m ≠ level) : lvlOf (putB d level b x) m = lvlOf d m := by
  unfold lvlOf putB
  rw [List.getD_eq_getElem?_getD, List.getD_eq_getElem?_getD, List.getElem?_set_ne (by omega)]
theorem lvlOf_put' {d : Dv} {level b : Int} {x : By} (h : 0 ≤ level ∧ level < d.length) : lvlOf (putB d level b x) level = (lvlOf d level).set (b - 1).toNat x := by
  unfold lvlOf putB
  rw [List.getD_eq_getElem?_getD, List.getElem?_set_self (by omega)]; rfl
theorem len_put' {d : Dv} {level b : Int} {x : By} : (putB d level b x).length = d.length := by unfold putB; simp

/-- The same levels' lengths. -/
def Like (d d' : Dv) : Prop := d'.length = d.length ∧ ∀ m : Int, 0 ≤ m → (lvlOf d' m).length = (lvlOf d m).length
theorem Like.rfl' (d : Dv) : Like d d := ⟨rfl, fun _ _ => rfl⟩
theorem Like.trans {a b c : Dv} (h : Like a b) (h' : Like b c) : Like a c := ⟨h'.1.trans h.1, fun m hm => (h'.2 m hm).trans (h.2 m hm)⟩
theorem like_put {d : Dv} {level b : Int} {x : By} (h : 0 ≤ level ∧ level < d.length) : Like d (putB d level b x) := by
  refine ⟨len_put', fun m hm => ?_⟩
  by_cases hne : m = level
  · subst hne; rw [lvlOf_put' h, List.length_set]
  · rw [lvlOf_other h.1 hm hne]
theorem like_levE {d d' : Dv} (h : Like d d') {m : Int} {l : List Int} : levE d' m l = levE d m l := by
  unfold levE
  rw [h.1]
  split
  · rfl
  · have : badAt d' m = badAt d m := by funext b; unfold badAt; rw [h.2 m (by omega)]
    rw [this]

theorem bk_put {d : Dv} {level b m n : Int} {x : By} (h : 0 ≤ level ∧ level < d.length) (hb : 1 ≤ b ∧ b ≤ (lvlOf d level).length) (hm : 0 ≤ m) (hn : 1 ≤ n) :
    bk (putB d level b x) m n = if level = m ∧ b = n then x else bk d m n := by
  unfold bk
  by_cases hl : m = level
  · subst hl
    rw [lvlOf_put' h, List.getD_eq_getElem?_getD, List.getD_eq_getElem?_getD]
    by_cases hbn : b = n
    · subst hbn
      rw [if_pos ⟨rfl, rfl⟩, List.getElem?_set_self (by omega)]; rfl
    · rw [if_neg (by omega), List.getElem?_set_ne (by omega)]
  · rw [lvlOf_other h.1 hm hl, if_neg (by omega)]

theorem may_put {c : Cfg} {d : Dv} {level b : Int} {x : By} (hd : may c d = true) (h : 0 ≤ level ∧ level < d.length) (hx : (x.length : Int) = bkSize d level) : may c (putB d level b x) = true := by
  have hd' := hd
  unfold may at hd ⊢
  simp only [Bool.and_eq_true] at hd ⊢
  refine ⟨hd.1, mayF_iff.2 ⟨by rw [len_put']; exact (mayF_iff.1 hd.2).1, fun i l y hl hy => ?_⟩⟩
  have ok := (mayF_iff.1 hd.2).2
  unfold putB at hy
  rw [List.getElem?_set] at hy
  split at hy
  · rename_i hi
    split at hy
    · cases hy
      have hlv := lvl_get h
      rw [hi] at hlv
      have ok' := ok i l _ hl hlv
      obtain ⟨hp1, hp2, hp3⟩ := may_pos hd' hlv
      unfold levelOk at ok' ⊢
      simp only [Bool.and_eq_true, beq_iff_eq, List.all_eq_true] at ok' ⊢
      rw [List.length_set]
      refine ⟨ok'.1, fun y hy => ?_⟩
      rcases List.mem_or_eq_of_mem_set hy with h1 | rfl
      · exact ok'.2 y h1
      · rw [hx]
        unfold bkSize
        exact ok'.2 _ (List.mem_of_getElem? (bk_get ⟨by omega, by omega⟩))
    · cases hy
  · exact ok i l y hl hy


theorem seeOk_iff {d : Dv} {s : See} : seeOk d s = true ↔ (s.kind = 1 ∨ s.kind = 2) ∧ ((0 ≤ s.level ∧ s.level < d.length) ∧ (1 ≤ s.bucket ∧ s.bucket ≤ (lvlOf d s.level).length)) ∧ (s.bytes.length : Int) = bkSize d s.level := by
  unfold seeOk
  simp only [Bool.and_eq_true, beq_iff_eq, Bool.or_eq_true, levE_zero, List.mem_singleton, forall_eq]
  constructor
  · rintro ⟨⟨h1, h2, h3⟩, h4⟩; exact ⟨h1, ⟨h2, h3⟩, h4⟩
  · rintro ⟨h1, ⟨h2, h3⟩, h4⟩; exact ⟨⟨h1, h2, h3⟩, h4⟩

theorem may_shape {c : Cfg} {d e : Dv} (h1 : may c d = true) (h2 : may c e = true) : d.length = e.length ∧ ∀ level : Int, 0 ≤ level → level < d.length → (lvlOf d level).length = (lvlOf e level).length ∧ bkSize d level = bkSize e level := by
  have hl : d.length = e.length := by
    unfold may at h1 h2
    simp only [Bool.and_eq_true] at h1 h2
    rw [mayF_len h1.2, mayF_len h2.2]
  refine ⟨hl, fun level h0 h => ?_⟩
  have g1 := lvl_get (d := d) ⟨h0, h⟩
  have g2 := lvl_get (d := e) (level := level) ⟨h0, by omega⟩
  obtain ⟨l1, a1, a2, a3, a4⟩ := may_level h1 g1
  obtain ⟨l2, b1, b2, b3, b4⟩ := may_level h2 g2
  have p1 := may_pos h1 g1
  have p2 := may_pos h2 g2
  rw [a1] at b1; cases b1
  have k1 := bk_get (d := d) (level := level) (b := 1) ⟨by omega, by omega⟩
  have k2 := bk_get (d := e) (level := level) (b := 1) ⟨by omega, by omega⟩
  refine ⟨by omega, ?_⟩
  unfold bkSize
  rw [a4 _ (List.mem_of_getElem? k1), b4 _ (List.mem_of_getElem? k2)]

theorem seeOk_shape {c : Cfg} {d e : Dv} (h1 : may c d = true) (h2 : may c e = true) {s : See} (h : seeOk d s = true) : seeOk e s = true := by
  obtain ⟨hl, hs⟩ := may_shape h1 h2
  obtain ⟨k, ⟨l0, l1⟩, hb⟩ := seeOk_iff.1 h
  have := hs s.level l0.1 l0.2
  exact seeOk_iff.2 ⟨k, ⟨⟨l0.1, by omega⟩, by omega⟩, by rw [← this.2]; exact hb⟩

/-- All of a level are of one size. -/
theorem bk_size {c : Cfg} {d : Dv} (h : may c d = true) {level k : Int} (hb : hasBk d level k = true) : ((bk d level k).length : Int) = bkSize d level := by
  obtain ⟨h1, h2⟩ := hasBk_iff.1 hb
  have g1 := lvl_get h1
  obtain ⟨l1, a1, a2, a3, a4⟩ := may_level h g1
  have p1 := may_pos h g1
  unfold bkSize
  rw [a4 _ (List.mem_of_getElem? (bk_get h2)), a4 _ (List.mem_of_getElem? (bk_get (d := d) (level := level) (b := 1) ⟨by omega, by omega⟩))]

theorem may_behind {c : Cfg} : ∀ {ss : List See} {d : Dv}, may c d = true → (∀ s ∈ ss, seeOk d s = true) → may c (behind d ss) = true
  | [], d, hd, _ => hd
  | s :: ss, d, hd, hs => by
    show may c (behind (behind1 d s) ss) = true
    have h1 : may c (behind1 d s) = true := by
      unfold behind1
      obtain ⟨_, ⟨h2, _⟩, h4⟩ := seeOk_iff.1 (hs s (by simp))
      split
      · exact may_put hd h2 h4
      · exact hd
    exact may_behind h1 fun s' h => seeOk_shape hd h1 (hs s' (by simp [h]))

theorem vers_size {d : Dv} {l : List See} (hok : ∀ s ∈ l, seeOk d s = true) {level b : Int} {x : By} (h : x ∈ versL l level b) : (x.length : Int) = bkSize d level := by
  unfold versL at h
  obtain ⟨s, hs, rfl⟩ := List.mem_map.1 h
  obtain ⟨hm, hw⟩ := List.mem_filter.1 hs
  obtain ⟨_, _, h4⟩ := seeOk_iff.1 (hok s hm)
  unfold isW at hw
  simp only [Bool.and_eq_true, beq_iff_eq] at hw
  rw [h4, hw.1.2]

/-- What a harm leaves may be. -/
theorem may_done {c : Cfg} {d bl : Dv} {l : List See} {h : Hm} (hd : may c d = true) (hbl : may c (blankD c) = true) (hok : ∀ s ∈ l, seeOk d s = true) (hm : mayH d l h = true) : may c (doneH c d l h) = true := by
  unfold mayH at hm
  unfold doneH
  split
  · exact may_behind hbl fun s hs => seeOk_shape hd hbl (hok s (firstW_sub s hs))
  rename_i k5
  rw [if_neg k5] at hm
  have hb : hasBk d h.level h.a = true := by
    cases hb : hasBk d h.level h.a
    · rw [if_pos (.inr (.inr hb))] at hm; cases hm
    · rfl
  have hbad : ¬ (h.kind < 1 ∨ h.kind > 5 ∨ hasBk d h.level h.a = false) := fun hn => by rw [if_pos hn] at hm; cases hm
  rw [if_neg hbad] at hm
  obtain ⟨q1, q2⟩ := hasBk_iff.1 hb
  have hsz := bk_size hd hb
  split
  · exact may_put hd q1 (by unfold flipAt; rw [List.length_set]; exact hsz)
  rename_i k1
  rw [if_neg k1] at hm
  split
  · rename_i k2
    rw [if_pos k2] at hm
    have h1 := may_put (b := h.a) hd q1 (bk_size hd hm)
    have := may_shape hd h1
    refine may_put h1 ⟨q1.1, by omega⟩ ?_
    rw [hsz]; exact (this.2 h.level q1.1 q1.2).2
  rename_i k2
  rw [if_neg k2] at hm
  split
  · rename_i k3
    rw [if_pos k3] at hm
    have hyes := of_decide_eq_true hm
    have hx := List.getElem?_eq_getElem (l := versL l h.level h.a) (i := h.at'.toNat) (by omega)
    refine may_put hd q1 ?_
    rw [List.getD_eq_getElem?_getD, hx]
    exact vers_size hok (List.mem_of_getElem? hx)
  · refine may_put hd q1 ?_
    unfold dropTo
    split
    · have hx := List.getElem?_eq_getElem (l := versL l h.level h.a) (i := (versL l h.level h.a).length - 2) (by omega)
      rw [List.getD_eq_getElem?_getD, hx]
      exact vers_size hok (List.mem_of_getElem? hx)
    · rw [List.length_replicate]; exact hsz

/-! ### Twice -/

theorem set_same {α : Type} {l : List α} {i : Nat} {x : α} (h : l[i]? = some x) : l.set i x = l := by
  apply List.ext_getElem?
  intro j
  rw [List.getElem?_set]
  split
  · rename_i e; subst e; rw [if_pos (List.getElem?_eq_some_iff.1 h).1, h]
  · rfl
theorem put_get {d : Dv} {level k : Int} (hb : hasBk d level k = true) : putB d level k (bk d level k) = d := by
  obtain ⟨q1, q2⟩ := hasBk_iff.1 hb
  unfold putB
  rw [set_same (bk_get q2), set_same (lvl_get q1)]
theorem put_put {d : Dv} {level k : Int} {x y : By} (hl : 0 ≤ level ∧ level < d.length) : putB (putB d level k x) level k y = putB d level k y := by
  have e1 : putB (putB d level k x) level k y = (putB d level k x).set level.toNat ((lvlOf (putB d level k x) level).set (k - 1).toNat y) := rfl
  rw [e1, lvlOf_put' hl]
  unfold putB
  rw [List.set_set, List.set_set]
theorem put_comm {d : Dv} {level k m : Int} {x y : By} (hl : 0 ≤ level ∧ level < d.length) (hne : (k - 1).toNat ≠ (m - 1).toNat) : putB (putB d level k x) level m y = putB (putB d level m y) level k x := by
  have e1 : putB (putB d level k x) level m y = (putB d level k x).set level.toNat ((lvlOf (putB d level k x) level).set (m - 1).toNat y) := rfl
  have e2 : putB (putB d level m y) level k x = (putB d level m y).set level.toNat ((lvlOf (putB d level m y) level).set (k - 1).toNat x) := rfl
  rw [e1, e2, lvlOf_put' hl, lvlOf_put' hl]
  unfold putB
  rw [List.set_set, List.set_set, List.set_comm _ _ hne]

theorem flip_flip {x : By} {n : Nat} {mask : Int} (hn : n < x.length) (hm : 0 ≤ mask ∧ mask < 256) : flipAt (flipAt x n mask) n mask = x := by
  unfold flipAt
  rw [List.set_set]
  apply List.ext_getElem?
  intro i
  rw [List.getElem?_set]
  split
  · rename_i e
    subst e
    rw [List.getD_eq_getElem?_getD, List.getElem?_set_self hn, List.getD_eq_getElem?_getD, List.getElem?_eq_getElem hn]
    simp only [Option.getD_some, Option.some.injEq]
    have h1 : (x[n].toNat ^^^ mask.toNat) < 256 := Nat.xor_lt_two_pow (n := 8) (UInt8.toNat_lt _) (by omega)
    have h2 : (UInt8.ofNat (x[n].toNat ^^^ mask.toNat)).toNat = x[n].toNat ^^^ mask.toNat := by
      rw [UInt8.toNat_ofNat']; exact Nat.mod_eq_of_lt h1
    rw [h2, Nat.xor_assoc, Nat.xor_self, Nat.xor_zero]
    exact UInt8.ofNat_toNat
  · rfl

theorem has_like {d e : Dv} (h : Like d e) {level k : Int} : hasBk e level k = hasBk d level k := by
  cases hb : hasBk d level k
  · rw [← Bool.not_eq_true, hasBk_iff]
    rw [← Bool.not_eq_true, hasBk_iff] at hb
    intro hh
    refine hb ⟨⟨hh.1.1, by have := h.1; omega⟩, hh.2.1, by have := h.2 level hh.1.1; omega⟩
  · obtain ⟨h1, h2⟩ := hasBk_iff.1 hb
    exact hasBk_iff.2 ⟨⟨h1.1, by have := h.1; omega⟩, h2.1, by have := h.2 level h1.1; omega⟩

/-- The bucket that is named is there. -/
theorem may_has {d : Dv} {l : List See} {h : Hm} (hm : mayH d l h = true) (k5 : h.kind ≠ 5) : hasBk d h.level h.a = true := by
  unfold mayH at hm
  rw [if_neg k5] at hm
  cases hb : hasBk d h.level h.a
  · rw [if_pos (.inr (.inr hb))] at hm; cases hm
  · rfl
theorem may_kind {d : Dv} {l : List See} {h : Hm} (hm : mayH d l h = true) : 1 ≤ h.kind ∧ h.kind ≤ 5 := by
  unfold mayH at hm
  split at hm
  · omega
  · split at hm
    · cases hm
    · omega

theorem may_flip {d : Dv} {l : List See} {h : Hm} (k1 : h.kind = 1) : mayH d l h = true ↔ hasBk d h.level h.a = true ∧ 0 ≤ h.at' ∧ h.at' < (bk d h.level h.a).length ∧ h.mask ≠ 0 := by
  unfold mayH
  rw [if_neg (by omega)]
  constructor
  · intro hm
    split at hm
    · cases hm
    · rename_i hn
      try rw [if_pos k1] at hm
      refine ⟨?_, of_decide_eq_true hm⟩
      cases hb : hasBk d h.level h.a
      · exact absurd (.inr (.inr hb)) hn
      · rfl
  · rintro ⟨hb, hh⟩
    rw [if_neg (by rintro (h1 | h1 | h1) <;> first | omega | (rw [hb] at h1; cases h1)), if_pos k1]
    exact decide_eq_true hh
theorem may_swap {d : Dv} {l : List See} {h : Hm} (k2 : h.kind = 2) : mayH d l h = true ↔ hasBk d h.level h.a = true ∧ hasBk d h.level h.b = true := by
  unfold mayH
  rw [if_neg (by omega)]
  constructor
  · intro hm
    split at hm
    · cases hm
    · rename_i hn
      rw [if_neg (show ¬ h.kind = 1 by omega)] at hm
      try rw [if_pos k2] at hm
      refine ⟨?_, hm⟩
      cases hb : hasBk d h.level h.a
      · exact absurd (.inr (.inr hb)) hn
      · rfl
  · rintro ⟨hb, hh⟩
    rw [if_neg (by rintro (h1 | h1 | h1) <;> first | omega | (rw [hb] at h1; cases h1)), if_neg (by omega), if_pos k2]
    exact hh

/-- A flip or a swap, done twice, turns nothing. -/
theorem twice {c : Cfg} {d : Dv} {l : List See} {h : Hm} (hk : h.kind = 1 ∨ h.kind = 2) (hmk : 0 ≤ h.mask ∧ h.mask < 256) (hm : mayH d l h = true) : mayH (doneH c d l h) l h = true ∧ doneH c (doneH c d l h) l h = d := by
  have hb := may_has hm (by omega)
  obtain ⟨q1, q2⟩ := hasBk_iff.1 hb
  rcases hk with k1 | k2
  · have hd : ∀ e, doneH c e l h = putB e h.level h.a (flipAt (bk e h.level h.a) h.at'.toNat h.mask) := fun e => by unfold doneH; rw [if_neg (by omega), if_pos k1]
    rw [hd d, hd]
    obtain ⟨_, p1, p2, p3⟩ := (may_flip k1).1 hm
    have hbk : bk (putB d h.level h.a (flipAt (bk d h.level h.a) h.at'.toNat h.mask)) h.level h.a = flipAt (bk d h.level h.a) h.at'.toNat h.mask := by
      rw [bk_put q1 q2 q1.1 q2.1, if_pos ⟨rfl, rfl⟩]
    rw [hbk]
    refine ⟨(may_flip k1).2 ⟨by rw [has_like (like_put q1)]; exact hb, p1, by rw [hbk]; unfold flipAt; rw [List.length_set]; exact p2, p3⟩, ?_⟩
    rw [put_put q1, flip_flip (by omega) hmk, put_get hb]
  · have hd : ∀ e, doneH c e l h = putB (putB e h.level h.a (bk e h.level h.b)) h.level h.b (bk e h.level h.a) := fun e => by unfold doneH; rw [if_neg (by omega), if_neg (by omega), if_pos k2]
    rw [hd d, hd]
    obtain ⟨_, hb2⟩ := (may_swap k2).1 hm
    obtain ⟨_, q3⟩ := hasBk_iff.1 hb2
    generalize hX : putB (putB d h.level h.a (bk d h.level h.b)) h.level h.b (bk d h.level h.a) = X
    have hl1 := like_put (b := h.a) (x := bk d h.level h.b) q1
    have q1' : 0 ≤ h.level ∧ h.level < (putB d h.level h.a (bk d h.level h.b)).length := ⟨q1.1, by have := hl1.1; omega⟩
    have q3' : 1 ≤ h.b ∧ h.b ≤ (lvlOf (putB d h.level h.a (bk d h.level h.b)) h.level).length := ⟨q3.1, by have := hl1.2 h.level q1.1; omega⟩
    have hl2 : Like d X := by rw [← hX]; exact hl1.trans (like_put q1')
    have e1 : bk X h.level h.b = bk d h.level h.a := by rw [← hX, bk_put q1' q3' q1.1 q3.1, if_pos ⟨rfl, rfl⟩]
    have e2 : bk X h.level h.a = bk d h.level h.b := by
      rw [← hX, bk_put q1' q3' q1.1 q2.1]
      split
      · rename_i e; rw [e.2]
      · rw [bk_put q1 q2 q1.1 q2.1, if_pos ⟨rfl, rfl⟩]
    rw [e1, e2]
    refine ⟨(may_swap k2).2 ⟨by rw [has_like hl2]; exact hb, by rw [has_like hl2]; exact hb2⟩, ?_⟩
    rw [← hX]
    by_cases he : (h.a - 1).toNat = (h.b - 1).toNat
    · have he : h.a = h.b := by omega
      rw [← he, put_put q1, put_put q1, put_put q1, put_get hb]
    · rw [put_comm q1 he, put_put (x := bk d h.level h.b) (y := bk d h.level h.a) (by have := (like_put (b := h.b) (x := bk d h.level h.a) q1).1; exact ⟨q1.1, by omega⟩), put_comm q1 (fun e => he e.symm), put_put (by have := (like_put (b := h.a) (x := bk d h.level h.a) q1).1; exact ⟨q1.1, by omega⟩), put_get hb, put_get hb2]

/-- No bucket is turned that is not named. -/
theorem stays {c : Cfg} {d : Dv} {l : List See} {h : Hm} (hm : mayH d l h = true) (k5 : h.kind ≠ 5) {i k : Int} (hi : 0 ≤ i) (hk : 1 ≤ k) (hn : ¬ (i = h.level ∧ (k = h.a ∨ h.kind = 2 ∧ k = h.b))) : bk (doneH c d l h) i k = bk d i k := by
  have hb := may_has hm k5
  obtain ⟨q1, q2⟩ := hasBk_iff.1 hb
  have one : ∀ x, bk (putB d h.level h.a x) i k = bk d i k := fun x => by
    rw [bk_put q1 q2 hi hk, if_neg (fun e => hn ⟨e.1.symm, .inl e.2.symm⟩)]
  unfold doneH
  rw [if_neg k5]
  split
  · exact one _
  split
  · rename_i k2
    obtain ⟨_, hb2⟩ := (may_swap k2).1 hm
    obtain ⟨_, q3⟩ := hasBk_iff.1 hb2
    have hl1 := like_put (b := h.a) (x := bk d h.level h.b) q1
    rw [bk_put ⟨q1.1, by have := hl1.1; omega⟩ ⟨q3.1, by have := hl1.2 h.level q1.1; omega⟩ hi hk, if_neg (fun e => hn ⟨e.1.symm, .inr ⟨k2, e.2.symm⟩⟩)]
    exact one _
  split
  · exact one _
  · exact one _

end Go.Hd
