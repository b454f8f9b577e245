/- The zero value of options; options have cells alone. -/
import Derived.Test.YthnidgiogjehkaaOpt
namespace Go.Proofs.Ythnidgiogjehkaa
set_option linter.unusedVariables false
set_option linter.unusedSimpArgs false
open Go.RowKit

theorem OptM.one (o : OptM) : o.cells.all (·.oneCell') = true := by
  unfold OptM.cells OptM.head
  simp [by8, u8, Value.oneCell']
def noOpt : OptM := ⟨false, 0, false, 0, false, none, 0, [], false, 0, 0, false, 0, 0, [0, 0, 0, 0, 0, 0, 0, 0, 0, 0, 0, 0]⟩
theorem alloc_noOpt : ∀ w, (Instr.alloc 31 true (.tuple #[])).run Try.prog w = .ok (.pointer (some ⟨w.heap.size, 0, none⟩)) (w.alloc (.cells noOpt.cells 31)) := by intro w; kernel_rfl
end Go.Proofs.Ythnidgiogjehkaa
