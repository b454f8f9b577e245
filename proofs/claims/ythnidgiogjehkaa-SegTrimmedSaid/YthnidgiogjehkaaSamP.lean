/- What options that are the same have, and what is kept. -/
import Derived.Test.YthnidgiogjehkaaSam12
import Derived.Test.YthnidgiogjehkaaKept
namespace Go.Proofs.Ythnidgiogjehkaa
set_option linter.unusedVariables false
set_option linter.unusedSimpArgs false
open Go.RowKit

theorem sameO_iff (a b : OptM) : sameO a b = true ↔ a.sacks = b.sacks ∧ a.hasMSS = b.hasMSS ∧ a.mss = b.mss ∧ a.hasScale = b.hasScale ∧ a.scale = b.scale ∧ a.sackOK = b.sackOK ∧ a.hasTime = b.hasTime ∧ a.val = b.val ∧ a.echo = b.echo ∧ a.hasAO = b.hasAO ∧ a.key = b.key ∧ a.next = b.next ∧ a.mac = b.mac := by
  unfold sameO
  simp only [Bool.and_eq_true, decide_eq_true_eq, beq_iff_eq]
  constructor
  · rintro ⟨⟨⟨⟨⟨⟨⟨⟨⟨⟨⟨⟨h1, h2⟩, h3⟩, h4⟩, h5⟩, h6⟩, h7⟩, h8⟩, h9⟩, h10⟩, h11⟩, h12⟩, h13⟩
    exact ⟨h1, h2, h3, h4, h5, h6, h7, h8, h9, h10, h11, h12, h13⟩
  · rintro ⟨h1, h2, h3, h4, h5, h6, h7, h8, h9, h10, h11, h12, h13⟩
    exact ⟨⟨⟨⟨⟨⟨⟨⟨⟨⟨⟨⟨h1, h2⟩, h3⟩, h4⟩, h5⟩, h6⟩, h7⟩, h8⟩, h9⟩, h10⟩, h11⟩, h12⟩, h13⟩
theorem keptO_eq (o : OptM) : keptO o = ⟨o.hasMSS, if o.hasMSS then o.mss else 0, o.hasScale, if o.hasScale then o.scale else 0, o.sackOK, o.A, o.c, o.sacks, o.hasTime, if o.hasTime then o.val else 0, if o.hasTime then o.echo else 0, o.hasAO, if o.hasAO then o.key else 0, if o.hasAO then o.next else 0, if o.hasAO then o.mac else zeros12⟩ := by
  obtain ⟨a, b, c, d, e, f, g, h, i, j, k, l, m, n, p⟩ := o
  cases a <;> cases c <;> cases i <;> cases l <;> rfl
end Go.Proofs.Ythnidgiogjehkaa
