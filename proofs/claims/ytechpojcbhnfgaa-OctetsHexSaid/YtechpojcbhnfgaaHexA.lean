/- Hex digits: what a digit is worth. -/
import Derived.Test.YtechpojcbhnfgaaOctA
import Derived.Test.YtechpojcbhnfgaaStr
namespace Go.Proofs.Ytechpojcbhnfgaa
set_option linter.unusedVariables false
set_option linter.unusedSimpArgs false
open Go.RowKit

/-- A digit's number; 16: none. -/
def nib (c : Nat) : Nat := if 48 ≤ c ∧ c ≤ 57 then c - 48 else if 97 ≤ c ∧ c ≤ 102 then c - 87 else if 65 ≤ c ∧ c ≤ 70 then c - 55 else 16
theorem nib_le (c : Nat) : nib c ≤ 16 := by unfold nib; repeat' split
                                            all_goals omega
theorem or32 : ∀ c : Fin 256, bits .or .u8 ((c.val : Nat) : Int) 32 = ((c.val ||| 32 : Nat) : Int) := by decide +kernel
theorem or32_val : ∀ c : Fin 256, (c.val ||| 32) < 256 ∧ ((97 ≤ (c.val ||| 32) ∧ (c.val ||| 32) ≤ 102) ↔ (97 ≤ c.val ∧ c.val ≤ 102) ∨ (65 ≤ c.val ∧ c.val ≤ 70)) ∧ (97 ≤ c.val → c.val ≤ 102 → c.val ||| 32 = c.val) ∧ (65 ≤ c.val → c.val ≤ 70 → c.val ||| 32 = c.val + 32) := by decide +kernel

def nibV (c : UInt8) : Value := .tuple #[.int .u8 ((if nib c.toNat < 16 then nib c.toNat else 0 : Nat) : Int), .bool (decide (nib c.toNat < 16))]

theorem wrap8 (n : Int) (h : -256 ≤ n) (h' : n < 0) : IntKind.u8.wrap n = n + 256 := by
  simp only [IntKind.wrap, IntKind.signed, IntKind.bits]
  simp
  omega
theorem nibble_any (c : UInt8) (w : World) : Calls Try.prog 32 #[.int .u8 (c.toNat : Int)] w fun e w' => e = .returned (nibV c) ∧ w = w' := by
  have hc := c.toNat_lt
  have h1 := or32 ⟨c.toNat, hc⟩
  have h2 := or32_val ⟨c.toNat, hc⟩
  simp only at h1 h2
  obtain ⟨ho, hr, ha, hA⟩ := h2
  unfold nibV
  generalize c.toNat = n at *
  generalize n ||| 32 = o at *
  by_cases k1 : 48 ≤ n ∧ n ≤ 57
  · have e1 : nib n = n - 48 := by unfold nib; rw [if_pos k1]
    have e2 : (((if nib n < 16 then nib n else 0 : Nat)) : Int) = (n : Int) - 48 := by rw [e1, if_pos (by omega)]; omega
    have e3 : decide (nib n < 16) = true := decide_eq_true (by omega)
    rw [e2, e3]
    have f1 : IntKind.u8.wrap ((n : Int) - 48) = (n : Int) - 48 := IntWalk.u8_in _ (by omega)
    clear h1 hr ha hA e1 e2 e3
    go_enter Try.func32, Try.ntmps32
    go_wp2
    go_ret2
    exact ⟨rfl, rfl⟩
  · have f1 : ∃ m : Int, 10 ≤ m ∧ m ≤ 255 ∧ IntKind.u8.wrap ((n : Int) - 48) = m := by
      by_cases k : 48 ≤ n
      · exact ⟨(n : Int) - 48, by omega, by omega, IntWalk.u8_in _ (by omega)⟩
      · exact ⟨(n : Int) - 48 + 256, by omega, by omega, wrap8 _ (by omega) (by omega)⟩
    obtain ⟨m, m1, m2, f1⟩ := f1
    by_cases k2 : (97 ≤ n ∧ n ≤ 102) ∨ (65 ≤ n ∧ n ≤ 70)
    · have e1 : nib n = o - 87 := by
        unfold nib; rw [if_neg k1]
        rcases k2 with k | k
        · rw [if_pos k, ha k.1 k.2]
        · rw [if_neg (by omega), if_pos k, hA k.1 k.2]; omega
      have ho2 := hr.2 k2
      have e2 : (((if nib n < 16 then nib n else 0 : Nat)) : Int) = (o : Int) - 97 + 10 := by rw [e1, if_pos (by omega)]; omega
      have e3 : decide (nib n < 16) = true := decide_eq_true (by omega)
      have f2 : IntKind.u8.wrap ((o : Int) - 97) = (o : Int) - 97 := IntWalk.u8_in _ (by omega)
      have f3 : IntKind.u8.wrap ((o : Int) - 97 + 10) = (o : Int) - 97 + 10 := IntWalk.u8_in _ (by omega)
      rw [e2, e3]
      clear hr ha hA e1 e2 e3 k1 k2
      go_enter Try.func32, Try.ntmps32
      go_wp2
      go_ret2
      exact ⟨rfl, rfl⟩
    · have e1 : nib n = 16 := by
        unfold nib; rw [if_neg k1, if_neg (fun k => k2 (.inl k)), if_neg (fun k => k2 (.inr k))]
      have ho2 : ¬ (97 ≤ o ∧ o ≤ 102) := fun k => k2 (hr.1 k)
      have f2 : ∃ q : Int, 6 ≤ q ∧ q ≤ 255 ∧ IntKind.u8.wrap ((o : Int) - 97) = q := by
        by_cases k : 97 ≤ o
        · exact ⟨(o : Int) - 97, by omega, by omega, IntWalk.u8_in _ (by omega)⟩
        · exact ⟨(o : Int) - 97 + 256, by omega, by omega, wrap8 _ (by omega) (by omega)⟩
      obtain ⟨q, q1, q2, f2⟩ := f2
      have e2 : (((if nib n < 16 then nib n else 0 : Nat)) : Int) = 0 := by rw [e1]; rfl
      have e3 : decide (nib n < 16) = false := decide_eq_false (by omega)
      rw [e2, e3]
      clear hr ha hA e1 e2 e3 k1 k2 ho2
      go_enter Try.func32, Try.ntmps32
      go_wp2
      go_ret2
      exact ⟨rfl, rfl⟩
/-- The document's. -/
theorem rnibble_any (c : UInt8) (w : World) : Calls Try.prog 33 #[.int .u8 (c.toNat : Int)] w fun e w' => e = .returned (.int .u8 (nib c.toNat : Int)) ∧ w = w' := by
  have hc := c.toNat_lt
  generalize c.toNat = n at *
  by_cases k1 : 48 ≤ n ∧ n ≤ 57
  · have e1 : ((nib n : Nat) : Int) = (n : Int) - 48 := by unfold nib; rw [if_pos k1]; omega
    rw [e1]
    have f1 : IntKind.u8.wrap ((n : Int) - 48) = (n : Int) - 48 := IntWalk.u8_in _ (by omega)
    go_enter Try.func33, Try.ntmps33
    go_wp2
    go_ret
    exact ⟨rfl, rfl⟩
  · by_cases k2 : 97 ≤ n ∧ n ≤ 102
    · have e1 : ((nib n : Nat) : Int) = (n : Int) - 97 + 10 := by unfold nib; rw [if_neg k1, if_pos k2]; omega
      rw [e1]
      have f1 : IntKind.u8.wrap ((n : Int) - 97) = (n : Int) - 97 := IntWalk.u8_in _ (by omega)
      have f2 : IntKind.u8.wrap ((n : Int) - 97 + 10) = (n : Int) - 97 + 10 := IntWalk.u8_in _ (by omega)
      have f3 : ¬ ((n : Int) ≤ 57) := by omega
      go_enter Try.func33, Try.ntmps33
      go_wp2
      go_ret
      exact ⟨rfl, rfl⟩
    · by_cases k3 : 65 ≤ n ∧ n ≤ 70
      · have e1 : ((nib n : Nat) : Int) = (n : Int) - 65 + 10 := by unfold nib; rw [if_neg k1, if_neg k2, if_pos k3]; omega
        rw [e1]
        have f1 : IntKind.u8.wrap ((n : Int) - 65) = (n : Int) - 65 := IntWalk.u8_in _ (by omega)
        have f2 : IntKind.u8.wrap ((n : Int) - 65 + 10) = (n : Int) - 65 + 10 := IntWalk.u8_in _ (by omega)
        go_enter Try.func33, Try.ntmps33
        go_wp2
        go_ret
        exact ⟨rfl, rfl⟩
      · have e1 : ((nib n : Nat) : Int) = 16 := by unfold nib; rw [if_neg k1, if_neg k2, if_neg k3]; rfl
        rw [e1]
        clear e1
        have d : ∀ a b : Nat, ¬ (a ≤ n ∧ n ≤ b) → (decide ((a : Int) ≤ (n : Int)) = false) ∨ (decide ((a : Int) ≤ (n : Int)) = true ∧ decide ((n : Int) ≤ (b : Int)) = false) := by
          intro a b h
          by_cases k : a ≤ n
          · exact .inr ⟨by simpa using k, by simp; omega⟩
          · exact .inl (by simp; omega)
        have d1 := d _ _ k1
        have d2 := d _ _ k2
        have d3 := d _ _ k3
        simp only [Int.cast_ofNat_Int] at d1 d2 d3
        clear d k1 k2 k3
        rcases d1 with d1 | ⟨d1, d1'⟩ <;> rcases d2 with d2 | ⟨d2, d2'⟩ <;> rcases d3 with d3 | ⟨d3, d3'⟩
        all_goals
          go_enter Try.func33, Try.ntmps33
          go_wp2
          go_ret
          exact ⟨rfl, rfl⟩
end Go.Proofs.Ytechpojcbhnfgaa
