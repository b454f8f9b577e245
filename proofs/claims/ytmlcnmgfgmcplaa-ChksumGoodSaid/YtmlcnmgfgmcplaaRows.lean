/-
  No cell of these rows narrows 'for every input' (looked for: loops, veiled, ifaces, maps, wideKeys, modest, calm, conditions, laid).
  DERIVED. THE GIVEN ROWS OF THIS SEAT. 5 by the template 'for every input the law returns true; each argument reads behind the call as it read before'; 0 by the template 'total and deterministic' (their statements: YtmlcnmgfgmcplaaTotals.lean).
  GIVEN WITH THE SEED: the statements are not yours to turn. If you find one false, say at which input.
  Laid BY PROGRAM, IN A SANDBOX (cutbox-rows.mjs): the forced cells as the released guide's own fill.sh prints them over the translation a6c15598f22c4cd0… (all of the seat's roots in one cut). By AI agents, Wed Nov 11 2026. No macro, syntax, notation, axiom, sorry.
-/
import Derived.Test.YtmlcnmgfgmcplaaChecked
import GoSem.Claim
import GoSem.ClaimJoined
import GoSem.ClaimMapViews
import Derived.JoinedTies
import Derived.KernelRfl
namespace Go.Proofs.Ytmlcnmgfgmcplaa
/- THE CELL 'sum', in the pinned program and in every row, IS THE sha256 OF THE DUMP (.gsa) THAT YtmlcnmgfgmcplaaProg.lean LOADS. Nothing in Lean hashes anything: it is a label: what it is worth is what the hold of that sum in a sandbox is worth. -/
noncomputable def Try.pinned : Pinned := { name := "ytmlcnmgfgmcplaa", sum := "a6c15598f22c4cd00d253cff01cc33cf7aeba832a029a8ee725327105220d457", checked := Try.checked }
namespace Rows
def none {H : Type} : Left H := { results := [], args := [] }

/-- 'downhaullaw03.ChksumSums': WHATEVER THE INPUT: true; the input reads as it did. -/
def chksumSumsSpec : ChangeSpec := { name := "chksumSums", fn := fun _ => fun
  | [d] => { results := [.lit (.bool true)], args := [d] }
  | _ => none }
def chksumSumsRow : OpenClaim := { program := "ytmlcnmgfgmcplaa", sum := "a6c15598f22c4cd00d253cff01cc33cf7aeba832a029a8ee725327105220d457", func := "downhaul/downhaullaw03.ChksumSums", spec := "chksumSums", apart := false }
def ChksumSumsSaid : Prop := chksumSumsRow.holds Try.pinned (OpenSpec.ofChange chksumSumsSpec)

/-- ITS FALSE NEIGHBOUR: 'it returns false'. Refute it at one input. -/
def chksumSumsWrong : ChangeSpec := { name := "chksumSums", fn := fun _ => fun
  | [d] => { results := [.lit (.bool false)], args := [d] }
  | _ => none }
def ChksumSumsWrongFalsely : Prop := chksumSumsRow.holds Try.pinned (OpenSpec.ofChange chksumSumsWrong)

/-- 'downhaullaw03.ChksumTurns': WHATEVER THE INPUT: true; the input reads as it did. -/
def chksumTurnsSpec : ChangeSpec := { name := "chksumTurns", fn := fun _ => fun
  | [d1, d2, d3] => { results := [.lit (.bool true)], args := [d1, d2, d3] }
  | _ => none }
def chksumTurnsRow : OpenClaim := { program := "ytmlcnmgfgmcplaa", sum := "a6c15598f22c4cd00d253cff01cc33cf7aeba832a029a8ee725327105220d457", func := "downhaul/downhaullaw03.ChksumTurns", spec := "chksumTurns", apart := false }
def ChksumTurnsSaid : Prop := chksumTurnsRow.holds Try.pinned (OpenSpec.ofChange chksumTurnsSpec)

/-- ITS FALSE NEIGHBOUR: 'it returns false'. Refute it at one input. -/
def chksumTurnsWrong : ChangeSpec := { name := "chksumTurns", fn := fun _ => fun
  | [d1, d2, d3] => { results := [.lit (.bool false)], args := [d1, d2, d3] }
  | _ => none }
def ChksumTurnsWrongFalsely : Prop := chksumTurnsRow.holds Try.pinned (OpenSpec.ofChange chksumTurnsWrong)

/-- 'downhaullaw03.ChksumMixed': WHATEVER THE INPUT: true; the input reads as it did. -/
def chksumMixedSpec : ChangeSpec := { name := "chksumMixed", fn := fun _ => fun
  | [d1, d2] => { results := [.lit (.bool true)], args := [d1, d2] }
  | _ => none }
def chksumMixedRow : OpenClaim := { program := "ytmlcnmgfgmcplaa", sum := "a6c15598f22c4cd00d253cff01cc33cf7aeba832a029a8ee725327105220d457", func := "downhaul/downhaullaw03.ChksumMixed", spec := "chksumMixed", apart := false }
def ChksumMixedSaid : Prop := chksumMixedRow.holds Try.pinned (OpenSpec.ofChange chksumMixedSpec)

/-- ITS FALSE NEIGHBOUR: 'it returns false'. Refute it at one input. -/
def chksumMixedWrong : ChangeSpec := { name := "chksumMixed", fn := fun _ => fun
  | [d1, d2] => { results := [.lit (.bool false)], args := [d1, d2] }
  | _ => none }
def ChksumMixedWrongFalsely : Prop := chksumMixedRow.holds Try.pinned (OpenSpec.ofChange chksumMixedWrong)

/-- 'downhaullaw03.ChksumAnew': WHATEVER THE INPUT: true; the input reads as it did. -/
def chksumAnewSpec : ChangeSpec := { name := "chksumAnew", fn := fun _ => fun
  | [d1, d2, d3] => { results := [.lit (.bool true)], args := [d1, d2, d3] }
  | _ => none }
def chksumAnewRow : OpenClaim := { program := "ytmlcnmgfgmcplaa", sum := "a6c15598f22c4cd00d253cff01cc33cf7aeba832a029a8ee725327105220d457", func := "downhaul/downhaullaw03.ChksumAnew", spec := "chksumAnew", apart := false }
def ChksumAnewSaid : Prop := chksumAnewRow.holds Try.pinned (OpenSpec.ofChange chksumAnewSpec)

/-- ITS FALSE NEIGHBOUR: 'it returns false'. Refute it at one input. -/
def chksumAnewWrong : ChangeSpec := { name := "chksumAnew", fn := fun _ => fun
  | [d1, d2, d3] => { results := [.lit (.bool false)], args := [d1, d2, d3] }
  | _ => none }
def ChksumAnewWrongFalsely : Prop := chksumAnewRow.holds Try.pinned (OpenSpec.ofChange chksumAnewWrong)

/-- 'downhaullaw03.ChksumGood': WHATEVER THE INPUT: true; the input reads as it did. -/
def chksumGoodSpec : ChangeSpec := { name := "chksumGood", fn := fun _ => fun
  | [d1, d2, d3] => { results := [.lit (.bool true)], args := [d1, d2, d3] }
  | _ => none }
def chksumGoodRow : OpenClaim := { program := "ytmlcnmgfgmcplaa", sum := "a6c15598f22c4cd00d253cff01cc33cf7aeba832a029a8ee725327105220d457", func := "downhaul/downhaullaw03.ChksumGood", spec := "chksumGood", apart := false }
def ChksumGoodSaid : Prop := chksumGoodRow.holds Try.pinned (OpenSpec.ofChange chksumGoodSpec)

/-- ITS FALSE NEIGHBOUR: 'it returns false'. Refute it at one input. -/
def chksumGoodWrong : ChangeSpec := { name := "chksumGood", fn := fun _ => fun
  | [d1, d2, d3] => { results := [.lit (.bool false)], args := [d1, d2, d3] }
  | _ => none }
def ChksumGoodWrongFalsely : Prop := chksumGoodRow.holds Try.pinned (OpenSpec.ofChange chksumGoodWrong)

/- THE SECOND FORM. 'bulk': how many values and letters a reading holds, each counted each time it is reached (what is shared counts as often as it is met; a slice's spare places count too). A statement '..UptoSaid' is the law's where the arguments, and the package variables that the reading takes, are together of bulk at most 1048576: NARROWER than '..Said'. Prove '..Said' where nothing that the law and all that it calls make is longer than what came in: it says more and counts as full. Else prove '..UptoSaid'. A law counts once. -/
mutual
def uptoBulk {H : Type} : DataW H → Nat
  | .lit (.string bytes) => bytes.length + 1
  | .lit _ => 1
  | .nil => 1
  | .ptr d => uptoBulk d + 1
  | .slice elems spare => uptoBulkAll elems + uptoBulkAll spare + 1
  | .agg parts => uptoBulkAll parts + 1
  | .iface _ d => uptoBulk d + 1
  | .map entries => uptoBulkEntries entries + 1
  | .held _ => 1
def uptoBulkAll {H : Type} : List (DataW H) → Nat
  | [] => 0
  | d :: r => uptoBulk d + uptoBulkAll r
def uptoBulkEntries {H : Type} : List (Lit × DataW H) → Nat
  | [] => 0
  | x :: r => uptoBulkEntry x + uptoBulkEntries r
def uptoBulkEntry {H : Type} : Lit × DataW H → Nat
  | (.string bytes, d) => bytes.length + uptoBulk d + 1
  | (_, d) => uptoBulk d + 1
 end
def uptoSmall : (H : Type) → List (DataW H) → Bool := fun _ ds => decide (uptoBulkAll ds ≤ 1048576)
def OpenSpec.upto (s : _root_.Go.ChangeSpec) : _root_.Go.OpenSpec := { _root_.Go.OpenSpec.ofChange s with cond := some uptoSmall }

/-- 'downhaullaw03.ChksumSums', WHERE WHAT IT READS IS OF BULK AT MOST 1048576: true; the input reads as it did. -/
def chksumSumsUptoRow : OpenClaim := { program := "ytmlcnmgfgmcplaa", sum := "a6c15598f22c4cd00d253cff01cc33cf7aeba832a029a8ee725327105220d457", func := "downhaul/downhaullaw03.ChksumSums", spec := "chksumSums", apart := false, narrowed := true }
def ChksumSumsUptoSaid : Prop := chksumSumsUptoRow.holds Try.pinned (OpenSpec.upto chksumSumsSpec)

/-- 'downhaullaw03.ChksumTurns', WHERE WHAT IT READS IS OF BULK AT MOST 1048576: true; the input reads as it did. -/
def chksumTurnsUptoRow : OpenClaim := { program := "ytmlcnmgfgmcplaa", sum := "a6c15598f22c4cd00d253cff01cc33cf7aeba832a029a8ee725327105220d457", func := "downhaul/downhaullaw03.ChksumTurns", spec := "chksumTurns", apart := false, narrowed := true }
def ChksumTurnsUptoSaid : Prop := chksumTurnsUptoRow.holds Try.pinned (OpenSpec.upto chksumTurnsSpec)

/-- 'downhaullaw03.ChksumMixed', WHERE WHAT IT READS IS OF BULK AT MOST 1048576: true; the input reads as it did. -/
def chksumMixedUptoRow : OpenClaim := { program := "ytmlcnmgfgmcplaa", sum := "a6c15598f22c4cd00d253cff01cc33cf7aeba832a029a8ee725327105220d457", func := "downhaul/downhaullaw03.ChksumMixed", spec := "chksumMixed", apart := false, narrowed := true }
def ChksumMixedUptoSaid : Prop := chksumMixedUptoRow.holds Try.pinned (OpenSpec.upto chksumMixedSpec)

/-- 'downhaullaw03.ChksumAnew', WHERE WHAT IT READS IS OF BULK AT MOST 1048576: true; the input reads as it did. -/
def chksumAnewUptoRow : OpenClaim := { program := "ytmlcnmgfgmcplaa", sum := "a6c15598f22c4cd00d253cff01cc33cf7aeba832a029a8ee725327105220d457", func := "downhaul/downhaullaw03.ChksumAnew", spec := "chksumAnew", apart := false, narrowed := true }
def ChksumAnewUptoSaid : Prop := chksumAnewUptoRow.holds Try.pinned (OpenSpec.upto chksumAnewSpec)

/-- 'downhaullaw03.ChksumGood', WHERE WHAT IT READS IS OF BULK AT MOST 1048576: true; the input reads as it did. -/
def chksumGoodUptoRow : OpenClaim := { program := "ytmlcnmgfgmcplaa", sum := "a6c15598f22c4cd00d253cff01cc33cf7aeba832a029a8ee725327105220d457", func := "downhaul/downhaullaw03.ChksumGood", spec := "chksumGood", apart := false, narrowed := true }
def ChksumGoodUptoSaid : Prop := chksumGoodUptoRow.holds Try.pinned (OpenSpec.upto chksumGoodSpec)

end Rows
end Go.Proofs.Ytmlcnmgfgmcplaa
