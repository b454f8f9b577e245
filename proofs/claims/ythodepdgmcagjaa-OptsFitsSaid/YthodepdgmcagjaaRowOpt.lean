/- How options that come in are opened. -/
import Derived.Test.YthodepdgmcagjaaRowSeg
namespace Go.Proofs.Ythodepdgmcagjaa
set_option linter.unusedVariables false
set_option linter.unusedSimpArgs false
open Go.ChangeShapes Go.WideShapes Go.ChangeAt Go.RowKit
section
variable {H : Type} {enc : TypeId × Value → H} {w : World} {base : Nat} {spare : Nat → Bool} {held : Bool}
theorem arg_opt {r : Reach} {b0 : Nat} {v : Value} {d : DataW H} {ps : List MemPlace} (hv : Value.okWide Try.prog w r b0 27 v) (h : DataW.Trod enc Try.prog w base spare held 27 v d ps) : ∃ o : OptM, v = .agg o.cells ∧ OptOk w o := by
  obtain ⟨cs, rfl, m, y, h1⟩ := arg_struct Try.underlying27 hv h
  obtain ⟨o, ho, hoo⟩ := open_opt h1
  refine ⟨o, ?_, hoo⟩
  congr 1
  exact Array.toList_inj.1 ho
end
end Go.Proofs.Ythodepdgmcagjaa
