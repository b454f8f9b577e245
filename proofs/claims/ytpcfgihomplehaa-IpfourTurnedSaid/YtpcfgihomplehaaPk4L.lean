/- What the laws of layer 10 need, in plain words. -/
import Derived.Test.YtpcfgihomplehaaPk4R
namespace Go.Proofs.Ytpcfgihomplehaa
set_option linter.unusedVariables false
set_option linter.unusedSimpArgs false
open Go.RowKit

def layR4 (p : Pkt) : List UInt8 × Int := (lay4 p, if may4 p then 0 else 1)
def hopR4 (b : List UInt8) : List UInt8 × Int :=
  if (parse4 b).2 ≠ 0 then ([], (parse4 b).2) else if (parse4 b).1.hops.toNat < 2 then ([], 1) else (hop4 b, 0)
theorem parse4_bad (b : List UInt8) (h : (parse4 b).2 ≠ 0) : (parse4 b).1 = noPkt := by
  unfold parse4 at h ⊢
  split at h
  · exact absurd rfl h
  · rename_i h1; rw [if_neg h1]
theorem parse4_eq (b : List UInt8) (h : (parse4 b).2 = 0) : parse4 b = ((parse4 b).1, 0) := Prod.ext rfl h
theorem lay4_len (p : Pkt) (h : may4 p = true) : (lay4 p).length = 20 + p.load.length := by
  unfold lay4
  rw [if_pos h, List.length_append, head4_len]
theorem lay4_le (p : Pkt) : (lay4 p).length ≤ 65535 := by
  by_cases h : may4 p = true
  · rw [lay4_len p h]
    have := ((may4_iff p).1 h).off
    omega
  · unfold lay4
    rw [if_neg h]
    simp
theorem hop4_length (b : List UInt8) : (hop4 b).length = b.length := by unfold hop4; simp
theorem hopR4_lo (b : List UInt8) (p : Pkt) (h : parse4 b = (p, 0)) (hl : p.hops.toNat < 2) : hopR4 b = ([], 1) := by
  unfold hopR4
  rw [h]
  simp only [ne_eq, not_true_eq_false, if_false, if_pos hl]
theorem hopR4_hi (b : List UInt8) (p : Pkt) (h : parse4 b = (p, 0)) (hl : ¬ p.hops.toNat < 2) :
    ∃ d x, hopR4 b = (d, 0) ∧ parse4 d = ({ p with hops := x }, 0) ∧ x.toNat + 1 = p.hops.toNat ∧ d.length = b.length := by
  obtain ⟨_, _, h0, hp⟩ := parse4_ok b p h
  have h8 : p.hops = b.getD 8 0 := by rw [hp]; rfl
  refine ⟨hop4 b, b.getD 8 0 - 1, ?_, ?_, ?_, hop4_length b⟩
  · unfold hopR4
    rw [h]
    simp only [ne_eq, not_true_eq_false, if_false, if_neg hl]
  · rw [parse4_hop b h0 (by rw [← h8]; omega), hp]
  · rw [← h8]
    have := p.hops.toNat_lt
    rw [UInt8.toNat_sub]
    have h1 : (1 : UInt8).toNat = 1 := rfl
    rw [h1]
    omega
end Go.Proofs.Ytpcfgihomplehaa
