/- Masks on numbers, in plain words. -/
import Derived.WalkKit
namespace Go.Proofs.Ytpcfgihomplehaa
set_option linter.unusedVariables false
set_option linter.unusedSimpArgs false
open Go.RowKit

theorem ofInt_nat (n : Nat) (h : n < 18446744073709551616) : (BitVec.ofInt 64 (n : Int)).toNat = n := by
  rw [BitVec.ofInt_natCast, BitVec.toNat_ofNat]; exact Nat.mod_eq_of_lt (by omega)
theorem wrap_i64_nat (n : Nat) (h : n < 9223372036854775808) : IntKind.i64.wrap (n : Int) = (n : Int) := by
  simp [IntKind.wrap, IntKind.bits, IntKind.signed]
  split <;> omega
theorem i64_and (n m : Nat) (hn : n < 9223372036854775808) (hm : m < 9223372036854775808) : bits .and .i64 (n : Int) (m : Int) = ((n &&& m : Nat) : Int) := by
  show IntKind.i64.wrap ((BitVec.ofInt 64 (n : Int) &&& BitVec.ofInt 64 (m : Int)).toNat : Int) = _
  rw [BitVec.toNat_and, ofInt_nat n (by omega), ofInt_nat m (by omega)]
  exact wrap_i64_nat _ (Nat.lt_of_le_of_lt Nat.and_le_left hn)
theorem and_mask (n k : Nat) : n &&& (2 ^ k - 1) = n % 2 ^ k := Nat.and_two_pow_sub_one_eq_mod n k
theorem and_high (n k : Nat) (hk : k ≤ 64) (hn : n < 18446744073709551616) : n &&& (18446744073709551616 - 2 ^ k) = n / 2 ^ k * 2 ^ k := by
  have e1 : n / 2 ^ k * 2 ^ k = (n >>> k) <<< k := by rw [Nat.shiftRight_eq_div_pow, Nat.shiftLeft_eq]
  have e2 : 18446744073709551616 - 2 ^ k = (2 ^ (64 - k) - 1) <<< k := by
    rw [Nat.shiftLeft_eq, Nat.sub_mul, ← Nat.pow_add, Nat.one_mul, show 64 - k + k = 64 by omega]
  rw [e1, e2]
  apply Nat.eq_of_testBit_eq
  intro i
  rw [Nat.testBit_and, Nat.testBit_shiftLeft, Nat.testBit_shiftLeft, Nat.testBit_shiftRight, Nat.testBit_two_pow_sub_one]
  by_cases h : k ≤ i
  · rw [show k + (i - k) = i by omega]
    by_cases h2 : i - k < 64 - k
    · simp [h, h2]
    · have : n.testBit i = false := Nat.testBit_lt_two_pow (Nat.lt_of_lt_of_le (show n < 2 ^ 64 by omega) (Nat.pow_le_pow_right (by omega) (by omega)))
      simp [this]
  · simp [h]
theorem i64_andNot (n k : Nat) (hk : k ≤ 62) (hn : n < 9223372036854775808) : bits .andNot .i64 (n : Int) ((2 ^ k - 1 : Nat) : Int) = ((n / 2 ^ k * 2 ^ k : Nat) : Int) := by
  have hp : 2 ^ k ≤ 2 ^ 62 := Nat.pow_le_pow_right (by omega) hk
  have h1 := Nat.one_le_two_pow (n := k)
  show IntKind.i64.wrap ((BitVec.ofInt 64 (n : Int) &&& ~~~BitVec.ofInt 64 ((2 ^ k - 1 : Nat) : Int)).toNat : Int) = _
  rw [BitVec.toNat_and, BitVec.toNat_not, ofInt_nat n (by omega), ofInt_nat (2 ^ k - 1) (by omega), show (2 : Nat) ^ 64 - 1 - (2 ^ k - 1) = 18446744073709551616 - 2 ^ k by omega, and_high n k (by omega) (by omega)]
  exact wrap_i64_nat _ (Nat.lt_of_le_of_lt (Nat.div_mul_le_self n (2 ^ k)) hn)
theorem i64_and1 (n : Nat) (hn : n < 9223372036854775808) : bits .and .i64 (n : Int) 1 = ((n % 2 : Nat) : Int) := by
  rw [show (1 : Int) = ((2 ^ 1 - 1 : Nat) : Int) by decide, i64_and n (2 ^ 1 - 1) hn (by decide), and_mask]
theorem i64_andNot7 (n : Nat) (hn : n < 9223372036854775808) : bits .andNot .i64 (n : Int) 7 = ((n / 8 * 8 : Nat) : Int) := i64_andNot n 3 (by omega) hn
end Go.Proofs.Ytpcfgihomplehaa
