/- Walk: octets.Put. -/
import Derived.Test.YtfliddlcbnaoiaaOctA
namespace Go.Proofs.Ytfliddlcbnaoiaa
set_option linter.unusedVariables false
set_option linter.unusedSimpArgs false
open Go.RowKit

end Go.Proofs.Ytfliddlcbnaoiaa
