/- Bits of whole numbers that are not below 0. -/
import Derived.Test.YtlmpjhbfgakgdaaDoorAbIter
namespace Go.Ab
set_option linter.unusedVariables false
set_option linter.unusedSimpArgs false

theorem bv_nat {w a : Nat} (ha : a < 2 ^ w) : (BitVec.ofInt w (a : Int)).toNat = a := by
  rw [BitVec.toNat_ofInt]
  have : ((a : Int) % ((2 ^ w : Nat) : Int)) = (a : Int) := Int.emod_eq_of_lt (by omega) (by exact_mod_cast ha)
  rw [this]; rfl
theorem bv_and {w a b : Nat} (ha : a < 2 ^ w) (hb : b < 2 ^ w) : (BitVec.ofInt w (a : Int) &&& BitVec.ofInt w (b : Int)).toNat = a &&& b := by rw [BitVec.toNat_and, bv_nat ha, bv_nat hb]
theorem bv_or {w a b : Nat} (ha : a < 2 ^ w) (hb : b < 2 ^ w) : (BitVec.ofInt w (a : Int) ||| BitVec.ofInt w (b : Int)).toNat = a ||| b := by rw [BitVec.toNat_or, bv_nat ha, bv_nat hb]
theorem bv_xor {w a b : Nat} (ha : a < 2 ^ w) (hb : b < 2 ^ w) : (BitVec.ofInt w (a : Int) ^^^ BitVec.ofInt w (b : Int)).toNat = a ^^^ b := by rw [BitVec.toNat_xor, bv_nat ha, bv_nat hb]

/-- How many numbers of a kind are not below 0. -/
def lim (q : IntKind) : Nat := 2 ^ (if q.signed then q.bits - 1 else q.bits)
theorem wrap_nat {q : IntKind} {n : Nat} (h : n < lim q) : q.wrap (n : Int) = (n : Int) := by
  cases q <;> simp [lim, IntKind.wrap, IntKind.bits, IntKind.signed] at h ⊢ <;> omega
theorem lim_bits (q : IntKind) : lim q ≤ 2 ^ q.bits := by cases q <;> decide
theorem wrap_mod {q : IntKind} {n : Nat} (hq : q.signed = false) : q.wrap (n : Int) = ((n % 2 ^ q.bits : Nat) : Int) := by
  cases q <;> simp [IntKind.wrap, IntKind.bits, IntKind.signed] at hq ⊢

section
variable {q : IntKind} {a b : Nat} {k : Value → Prop}
theorem w_and (ha : a < lim q) (hb : b < lim q) : binV (.int q) .and (.int q (a : Int)) (.int q (b : Int)) k = k (.int q ((a &&& b : Nat) : Int)) := by
  have h := lim_bits q
  simp only [binV, binR, intR]
  rw [bv_and (by omega) (by omega), wrap_nat (Nat.lt_of_le_of_lt Nat.and_le_left ha)]
  simp
theorem lim_pow (q : IntKind) : ∃ m, lim q = 2 ^ m := ⟨_, rfl⟩
theorem w_or (ha : a < lim q) (hb : b < lim q) : binV (.int q) .or (.int q (a : Int)) (.int q (b : Int)) k = k (.int q ((a ||| b : Nat) : Int)) := by
  have h := lim_bits q
  obtain ⟨m, hm⟩ := lim_pow q
  simp only [binV, binR, intR]
  rw [bv_or (by omega) (by omega), wrap_nat (by rw [hm] at ha hb ⊢; exact Nat.or_lt_two_pow ha hb)]
  simp
theorem w_xor (ha : a < lim q) (hb : b < lim q) : binV (.int q) .xor (.int q (a : Int)) (.int q (b : Int)) k = k (.int q ((a ^^^ b : Nat) : Int)) := by
  have h := lim_bits q
  obtain ⟨m, hm⟩ := lim_pow q
  simp only [binV, binR, intR]
  rw [bv_xor (by omega) (by omega), wrap_nat (by rw [hm] at ha hb ⊢; exact Nat.xor_lt_two_pow ha hb)]
  simp
theorem w_shrN {q' : IntKind} (hb : b < q.bits) : binV (.int q) .shr (.int q (a : Int)) (.int q' (b : Int)) k = k (.int q ((a / 2 ^ b : Nat) : Int)) := by
  simp only [binV, binR]
  rw [if_neg (by omega)]
  simp only [Int.toNat_natCast, Nat.min_eq_left (Nat.le_of_lt hb)]
  congr 2
  rw [Int.fdiv_eq_ediv_of_nonneg _ (by exact_mod_cast Nat.zero_le _)]
  norm_cast
theorem w_shlN {q' : IntKind} (hb : b < q.bits) (h : a * 2 ^ b < lim q) : binV (.int q) .shl (.int q (a : Int)) (.int q' (b : Int)) k = k (.int q ((a * 2 ^ b : Nat) : Int)) := by
  simp only [binV, binR]
  rw [if_neg (by omega)]
  simp only [Int.toNat_natCast, Nat.min_eq_left (Nat.le_of_lt hb)]
  rw [show (a : Int) * 2 ^ b = ((a * 2 ^ b : Nat) : Int) by norm_cast, wrap_nat h]
/-- A shift that may lose what is too high. -/
theorem w_shlM {q' : IntKind} (hq : q.signed = false) (hb : b ≤ q.bits) : binV (.int q) .shl (.int q (a : Int)) (.int q' (b : Int)) k = k (.int q ((a * 2 ^ b % 2 ^ q.bits : Nat) : Int)) := by
  simp only [binV, binR]
  rw [if_neg (by omega)]
  simp only [Int.toNat_natCast, Nat.min_eq_left hb]
  rw [show (a : Int) * 2 ^ b = ((a * 2 ^ b : Nat) : Int) by norm_cast, wrap_mod hq]
theorem cv_nat {q q' : IntKind} (h : a < lim q) : cvI q (.int q' (a : Int)) k = k (.int q (a : Int)) := by show k (.int q (q.wrap _)) = _; rw [wrap_nat h]
theorem cv_mod {q q' : IntKind} (h : q.signed = false) : cvI q (.int q' (a : Int)) k = k (.int q ((a % 2 ^ q.bits : Nat) : Int)) := by show k (.int q (q.wrap _)) = _; rw [wrap_mod h]
end

end Go.Ab
