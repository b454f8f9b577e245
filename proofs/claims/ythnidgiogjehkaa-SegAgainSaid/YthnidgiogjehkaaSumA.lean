/- Walks: chksum.fold, chksum.Turn, the reference's add and Turn. -/
import Derived.Test.YthnidgiogjehkaaProg
import Derived.Test.YthnidgiogjehkaaPlainSum
import Derived.WalkKit
import Derived.WalkSpells
import Derived.WalkLawsBesides
namespace Go.Proofs.Ythnidgiogjehkaa
set_option linter.unusedVariables false
set_option linter.unusedSimpArgs false
set_option maxRecDepth 20000
open Go.RowKit

set_option maxHeartbeats 400000 in
theorem fold_any (n : Int) (w : World) (h0 : 0 ≤ n) (h1 : n < 18446744073709551616) :
    Calls Try.prog 74 #[.int .u64 n] w fun e w' => e = .returned (.int .u16 (foldS n)) ∧ w' = w := by
  go_enter Try.func74, Try.ntmps74
  go_wp2
  go_loop [0] (fun t => ∃ k : Int, 0 ≤ k ∧ k < 18446744073709551616 ∧ Hid (foldS k = foldS n) ∧ t = .int .u64 k) (fun t => (intOf t).toNat)
  case atStart => exact ⟨n, h0, h1, rfl, rfl⟩
  case round =>
    obtain ⟨k, hk0, hk1, hk, rfl⟩ := hrel
    by_cases hlt : 65535 < k
    · have hm := and_low16 k hk0 hk1
      have hd : decide (65535 < k) = true := by simpa using hlt
      go_wp2
      go_round
      case rel => exact ⟨k % 65536 + k / 65536, by omega, by omega, (foldS_step hlt).trans hk, rfl⟩
      case measure => simp [intOf]; omega
    · have hd : decide (65535 < k) = false := by simpa using hlt
      go_wp2
      go_ret
      refine ⟨?_, rfl⟩
      show Ending.returned (.int .u16 k) = _
      rw [← hk.out, foldS_small hk0 (by omega)]

theorem xor_u16 (n : Int) (h0 : 0 ≤ n) (h1 : n ≤ 65535) : bits .xor .u16 IntKind.u16.max n = 65535 - n := by
  show bits .xor .u16 65535 n = 65535 - n
  obtain ⟨m, rfl⟩ := Int.eq_ofNat_of_zero_le h0
  have hm : m < 2 ^ 16 := by omega
  rw [show (65535 : Int) = ((65535 : Nat) : Int) from rfl, u16_xor_nat 65535 m (by omega) (by omega)]
  have : 65535 ^^^ m = 65535 - m := by
    have h := congrArg BitVec.toNat (BitVec.allOnes_xor (x := BitVec.ofNat 16 m))
    rw [BitVec.toNat_xor, BitVec.toNat_not, BitVec.toNat_ofNat, BitVec.toNat_allOnes, Nat.mod_eq_of_lt hm] at h
    exact h
  rw [this]; omega

end Go.Proofs.Ythnidgiogjehkaa
