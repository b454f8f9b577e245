/- Walks: addr.size. -/
import Derived.Test.YtpcfgihomplehaaAdr
namespace Go.Proofs.Ytpcfgihomplehaa
set_option linter.unusedVariables false
set_option linter.unusedSimpArgs false
open Go.RowKit

def Adr.sizeS (a : Adr) : Nat := if a.six then 16 else 4
theorem adrSize_any (a : Adr) (w : World) : Calls Try.prog 37 #[a.val] w fun e w' => e = .returned (.int .i64 (a.sizeS : Int)) ∧ Below w.heap.size w w' := by
  unfold Adr.val Adr.cells Adr.sizeS
  go_enter Try.func37, Try.ntmps37
  cases a.six
  all_goals
    go_wp2
    go_ret
    exact ⟨rfl, below_alloc (Below.refl _ _) _ (Nat.le_refl _)⟩
end Go.Proofs.Ytpcfgihomplehaa
