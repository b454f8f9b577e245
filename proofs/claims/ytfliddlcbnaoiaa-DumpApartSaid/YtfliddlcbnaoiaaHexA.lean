/- Hex digits: what a digit is worth. -/
import Derived.Test.YtfliddlcbnaoiaaOctA
import Derived.Test.YtfliddlcbnaoiaaStr
namespace Go.Proofs.Ytfliddlcbnaoiaa
set_option linter.unusedVariables false
set_option linter.unusedSimpArgs false
open Go.RowKit

/-- A digit's number; 16: none. -/
def nib (c : Nat) : Nat := if 48 ≤ c ∧ c ≤ 57 then c - 48 else if 97 ≤ c ∧ c ≤ 102 then c - 87 else if 65 ≤ c ∧ c ≤ 70 then c - 55 else 16
theorem nib_le (c : Nat) : nib c ≤ 16 := by unfold nib; repeat' split
                                            all_goals omega
theorem or32 : ∀ c : Fin 256, bits .or .u8 ((c.val : Nat) : Int) 32 = ((c.val ||| 32 : Nat) : Int) := by decide +kernel
theorem or32_val : ∀ c : Fin 256, (c.val ||| 32) < 256 ∧ ((97 ≤ (c.val ||| 32) ∧ (c.val ||| 32) ≤ 102) ↔ (97 ≤ c.val ∧ c.val ≤ 102) ∨ (65 ≤ c.val ∧ c.val ≤ 70)) ∧ (97 ≤ c.val → c.val ≤ 102 → c.val ||| 32 = c.val) ∧ (65 ≤ c.val → c.val ≤ 70 → c.val ||| 32 = c.val + 32) := by decide +kernel

def nibV (c : UInt8) : Value := .tuple #[.int .u8 ((if nib c.toNat < 16 then nib c.toNat else 0 : Nat) : Int), .bool (decide (nib c.toNat < 16))]

theorem wrap8 (n : Int) (h : -256 ≤ n) (h' : n < 0) : IntKind.u8.wrap n = n + 256 := by
  simp only [IntKind.wrap, IntKind.signed, IntKind.bits]
  simp
  omega
end Go.Proofs.Ytfliddlcbnaoiaa
