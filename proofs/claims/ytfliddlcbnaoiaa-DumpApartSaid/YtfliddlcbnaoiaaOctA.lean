/- Walks: bytes.Clone, octets.Get. -/
import Derived.Test.YtfliddlcbnaoiaaU8
import Derived.Test.YtfliddlcbnaoiaaOctP
namespace Go.Proofs.Ytfliddlcbnaoiaa
set_option linter.unusedVariables false
set_option linter.unusedSimpArgs false
open Go.RowKit

theorem own_empty (w : World) (base : Nat) (hb : base ≤ w.heap.size) : OB (w.alloc (.cells #[] 5)) base (.slice (some ⟨w.heap.size, 0, none⟩) 0 0) [] :=
  World.ownsRow_made w #[] 0 hb (by omega) (by simp)

end Go.Proofs.Ytfliddlcbnaoiaa
