/- What the laws of layer 11 need, in plain words. -/
import Derived.Test.YtlijgcmcpehplaaLx6A
namespace Go.Proofs.Ytlijgcmcpehplaa
set_option linter.unusedVariables false
set_option linter.unusedSimpArgs false
open Go.RowKit

theorem parse6_bad (b : List UInt8) (h : (parse6 b).2 ≠ 0) : (parse6 b).1 = noPkt := by
  unfold parse6 at h ⊢
  split at h
  · rename_i h1; rw [if_pos h1]
  · rename_i h1
    rw [if_neg h1]
    split at h
    · rename_i h2; rw [if_pos h2]
    · rename_i h2
      rw [if_neg h2]
      split at h
      · rename_i h3; rw [if_pos h3]
      · rename_i h3
        rw [if_neg h3]
        split at h
        · rfl
        · rename_i k f r he
          split at h
          · exact absurd rfl h
          · rename_i h4; rw [if_neg h4]
theorem parse6_eq (b : List UInt8) (h : (parse6 b).2 = 0) : parse6 b = ((parse6 b).1, 0) := Prod.ext rfl h
theorem wrap6_ok (b : List UInt8) (next : UInt8) (load : List UInt8) (h : (wrap6 b next load).2 = 0) :
    (parse6 b).2 = 0 ∧ parse6 (wrap6 b next load).1 = parse6 b ∧ (wrap6 b next load).1.length = b.length + load.length + 2 := by
  unfold wrap6 at h ⊢
  split at h
  · simp at h
  · rename_i h1
    rw [if_neg h1]
    split at h
    · simp at h
    · rename_i h2
      rw [if_neg h2]
      split at h
      · rename_i h3; exact absurd h h3
      · rename_i h3
        rw [if_neg h3]
        split at h
        · simp at h
        · rename_i h4
          rw [if_neg h4]
          have hp := parse6_eq b (Classical.not_not.1 h3)
          have h4' : (parse6 b).1.whole = true ∧ b.getD 6 0 = (parse6 b).1.proto ∧ ¬ 65535 < size6 b load := by
            simp only [Bool.or_eq_true, Bool.not_eq_true', decide_eq_false_iff_not, decide_eq_true_eq, not_or, Bool.not_eq_false, Classical.not_not] at h4
            exact ⟨h4.1.1, h4.1.2, h4.2⟩
          refine ⟨Classical.not_not.1 h3, ?_, ?_⟩
          · exact (parse6_wrapped b next load _ hp h4'.1 h4'.2.1 (by simpa using h1) (by omega) (by omega) (by omega)).trans hp.symm
          · exact wrapped6_len b next load (parse6_whole b _ hp h4'.1 h4'.2.1).1
theorem wrap6_no (b : List UInt8) (next : UInt8) (load : List UInt8) (h : (wrap6 b next load).2 ≠ 0) : (wrap6 b next load).1 = [] := by
  unfold wrap6 at h ⊢
  split
  · rfl
  · rename_i h1
    rw [if_neg h1] at h
    split
    · rfl
    · rename_i h2
      rw [if_neg h2] at h
      split
      · rfl
      · rename_i h3
        rw [if_neg h3] at h
        split
        · rfl
        · rename_i h4
          rw [if_neg h4] at h
          exact absurd rfl h
end Go.Proofs.Ytlijgcmcpehplaa
