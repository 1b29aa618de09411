/- Trees of buckets, in plain Lean. -/
import Derived.Test.YtlalkgkicccjiaaMdOrd
import Derived.Test.YtlalkgkicccjiaaAbBits
set_option linter.unusedVariables false
set_option linter.unusedSimpArgs false
namespace Go.Md
open Go.Ab

/-- The buckets of a leaf's path, from the root on. -/
def wayN (h n : Nat) : List Nat := (List.range (h + 1)).map fun r => (2 ^ h + n) / 2 ^ (h - r)
def wayL (h n : Int) : List Int := (wayN h.toNat n.toNat).map fun b : Nat => (b : Int)
def leafE (h n : Int) : Int := if highE h ≠ 0 then 2 else if n < 0 ∨ n ≥ many h then 2 else 0
/-- The error of a height, and of leaves. -/
def askedE (h : Int) (l : List Int) : Int := if highE h ≠ 0 then 2 else if l.any fun n => decide (n < 0 ∨ n ≥ many h) then 2 else 0
/-- A number's bits, turned round. -/
def rv : Nat → Nat → Nat → Nat
  | 0, _, out => out
  | i + 1, l, out => rv i (l / 2) (2 * out + l % 2)
def turnN (h n : Nat) : Nat := rv h (n % 2 ^ h) 0
def tp (h n : Nat) : Nat → Nat
  | 0 => 0
  | i + 1 => tp h n i ||| ((n / 2 ^ i % 2) * 2 ^ (h - 1 - i))

theorem wayN_len (h n : Nat) : (wayN h n).length = h + 1 := by unfold wayN; simp
theorem wayN_get {h n i : Nat} (hi : i ≤ h) : (wayN h n)[i]? = some ((2 ^ h + n) / 2 ^ (h - i)) := by unfold wayN; rw [List.getElem?_map, List.getElem?_range (by omega)]; rfl
theorem wayL_len {h n : Int} : (wayL h n).length = h.toNat + 1 := by unfold wayL; rw [List.length_map, wayN_len]
theorem wayL_get {h n : Int} {i : Nat} (hi : i ≤ h.toNat) : (wayL h n)[i]? = some (((2 ^ h.toNat + n.toNat) / 2 ^ (h.toNat - i) : Nat) : Int) := by unfold wayL; rw [List.getElem?_map, wayN_get hi]; rfl
theorem wayN_bound {h n i : Nat} (hi : i ≤ h) (hn : n < 2 ^ h) : 2 ^ i ≤ (2 ^ h + n) / 2 ^ (h - i) ∧ (2 ^ h + n) / 2 ^ (h - i) < 2 ^ (i + 1) := by
  have e : 2 ^ h = 2 ^ i * 2 ^ (h - i) := by rw [← Nat.pow_add]; congr 1; omega
  have hp : 0 < 2 ^ (h - i) := Nat.two_pow_pos _
  constructor
  · rw [Nat.le_div_iff_mul_le hp]; omega
  · rw [Nat.div_lt_iff_lt_mul hp, Nat.pow_succ, Nat.mul_assoc, Nat.mul_comm 2, ← Nat.mul_assoc]; omega

theorem tp_mod {h n : Nat} : ∀ i, i ≤ 6 → tp h n i = tp h (n % 64) i
  | 0, _ => rfl
  | i + 1, hi => by
    unfold tp
    rw [tp_mod i (by omega)]
    congr 2
    have : i = 0 ∨ i = 1 ∨ i = 2 ∨ i = 3 ∨ i = 4 ∨ i = 5 := by omega
    rcases this with rfl | rfl | rfl | rfl | rfl | rfl <;> omega
set_option maxRecDepth 100000 in
theorem tp_small : ∀ h : Fin 7, ∀ n : Fin 64, tp h.1 n.1 h.1 = turnN h.1 n.1 := by decide +kernel
theorem tp_turn {h n : Nat} (hh : h ≤ 6) : tp h n h = turnN h n := by
  rw [tp_mod h hh, tp_small ⟨h, by omega⟩ ⟨n % 64, Nat.mod_lt _ (by omega)⟩]
  unfold turnN
  congr 1
  have : h = 0 ∨ h = 1 ∨ h = 2 ∨ h = 3 ∨ h = 4 ∨ h = 5 ∨ h = 6 := by omega
  simp only
  rcases this with rfl | rfl | rfl | rfl | rfl | rfl | rfl <;> omega
set_option maxRecDepth 100000 in
theorem tp_lt_small : ∀ h : Fin 7, ∀ n : Fin 64, ∀ i : Fin 7, i.1 ≤ h.1 → tp h.1 n.1 i.1 < 2 ^ h.1 := by decide +kernel
theorem tp_lt {h n i : Nat} (hh : h ≤ 6) (hi : i ≤ h) : tp h n i < 2 ^ h := by
  rw [tp_mod i (by omega)]
  exact tp_lt_small ⟨h, by omega⟩ ⟨n % 64, Nat.mod_lt _ (by omega)⟩ ⟨i, by omega⟩ hi
theorem turn_lt {h n : Nat} (hh : h ≤ 6) : turnN h n < 2 ^ h := by rw [← tp_turn hh]; exact tp_lt hh (Nat.le_refl _)
theorem pow_le64 {h : Nat} (hh : h ≤ 6) : 2 ^ h ≤ 64 := by
  have : h = 0 ∨ h = 1 ∨ h = 2 ∨ h = 3 ∨ h = 4 ∨ h = 5 ∨ h = 6 := by omega
  rcases this with rfl | rfl | rfl | rfl | rfl | rfl | rfl <;> decide
theorem many_nat {h : Int} : many h = ((2 ^ h.toNat : Nat) : Int) := by unfold many; norm_cast

end Go.Md
