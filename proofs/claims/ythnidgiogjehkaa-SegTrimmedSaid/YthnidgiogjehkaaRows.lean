/-
  No cell of these rows narrows 'for every input' (looked for: loops, veiled, ifaces, maps, wideKeys, modest, calm, conditions, laid).
  DERIVED. THE GIVEN ROWS OF THIS SEAT. 6 by the template 'for every input the law returns true; each argument reads behind the call as it read before'; 0 by the template 'total and deterministic' (their statements: YthnidgiogjehkaaTotals.lean).
  GIVEN WITH THE SEED: the statements are not yours to turn. If you find one false, say at which input.
  Laid BY PROGRAM, IN A SANDBOX (cutbox-rows.mjs): the forced cells as the released guide's own fill.sh prints them over the translation 045541a043132a8a… (all of the seat's roots in one cut). By AI agents, Wed Nov 11 2026. No macro, syntax, notation, axiom, sorry.
-/
import Derived.Test.YthnidgiogjehkaaChecked
import GoSem.Claim
import GoSem.ClaimJoined
import GoSem.ClaimMapViews
import Derived.JoinedTies
import Derived.KernelRfl
namespace Go.Proofs.Ythnidgiogjehkaa
/- THE CELL 'sum', in the pinned program and in every row, IS THE sha256 OF THE DUMP (.gsa) THAT YthnidgiogjehkaaProg.lean LOADS. Nothing in Lean hashes anything: it is a label: what it is worth is what the hold of that sum in a sandbox is worth. -/
noncomputable def Try.pinned : Pinned := { name := "ythnidgiogjehkaa", sum := "045541a043132a8a6559ca9b22a4b8dcddca92a68374db37067c075e102319b5", checked := Try.checked }
namespace Rows
def none {H : Type} : Left H := { results := [], args := [] }

/-- 'downhaullaw13.SegLays': WHATEVER THE INPUT: true; the input reads as it did. -/
def segLaysSpec : ChangeSpec := { name := "segLays", fn := fun _ => fun
  | [d1, d2, d3] => { results := [.lit (.bool true)], args := [d1, d2, d3] }
  | _ => none }
def segLaysRow : OpenClaim := { program := "ythnidgiogjehkaa", sum := "045541a043132a8a6559ca9b22a4b8dcddca92a68374db37067c075e102319b5", func := "downhaul/downhaullaw13.SegLays", spec := "segLays", unfollowed := true, recurses := true, apart := false }
def SegLaysSaid : Prop := segLaysRow.holds Try.pinned (OpenSpec.ofChange segLaysSpec)

/-- ITS FALSE NEIGHBOUR: 'it returns false'. Refute it at one input. -/
def segLaysWrong : ChangeSpec := { name := "segLays", fn := fun _ => fun
  | [d1, d2, d3] => { results := [.lit (.bool false)], args := [d1, d2, d3] }
  | _ => none }
def SegLaysWrongFalsely : Prop := segLaysRow.holds Try.pinned (OpenSpec.ofChange segLaysWrong)

/-- 'downhaullaw13.SegParses': WHATEVER THE INPUT: true; the input reads as it did. -/
def segParsesSpec : ChangeSpec := { name := "segParses", fn := fun _ => fun
  | [d1, d2] => { results := [.lit (.bool true)], args := [d1, d2] }
  | _ => none }
def segParsesRow : OpenClaim := { program := "ythnidgiogjehkaa", sum := "045541a043132a8a6559ca9b22a4b8dcddca92a68374db37067c075e102319b5", func := "downhaul/downhaullaw13.SegParses", spec := "segParses", unfollowed := true, recurses := true, apart := false }
def SegParsesSaid : Prop := segParsesRow.holds Try.pinned (OpenSpec.ofChange segParsesSpec)

/-- ITS FALSE NEIGHBOUR: 'it returns false'. Refute it at one input. -/
def segParsesWrong : ChangeSpec := { name := "segParses", fn := fun _ => fun
  | [d1, d2] => { results := [.lit (.bool false)], args := [d1, d2] }
  | _ => none }
def SegParsesWrongFalsely : Prop := segParsesRow.holds Try.pinned (OpenSpec.ofChange segParsesWrong)

/-- 'downhaullaw13.SegBack': WHATEVER THE INPUT: true; the input reads as it did. -/
def segBackSpec : ChangeSpec := { name := "segBack", fn := fun _ => fun
  | [d1, d2] => { results := [.lit (.bool true)], args := [d1, d2] }
  | _ => none }
def segBackRow : OpenClaim := { program := "ythnidgiogjehkaa", sum := "045541a043132a8a6559ca9b22a4b8dcddca92a68374db37067c075e102319b5", func := "downhaul/downhaullaw13.SegBack", spec := "segBack", unfollowed := true, recurses := true, apart := false }
def SegBackSaid : Prop := segBackRow.holds Try.pinned (OpenSpec.ofChange segBackSpec)

/-- ITS FALSE NEIGHBOUR: 'it returns false'. Refute it at one input. -/
def segBackWrong : ChangeSpec := { name := "segBack", fn := fun _ => fun
  | [d1, d2] => { results := [.lit (.bool false)], args := [d1, d2] }
  | _ => none }
def SegBackWrongFalsely : Prop := segBackRow.holds Try.pinned (OpenSpec.ofChange segBackWrong)

/-- 'downhaullaw13.SegAgain': WHATEVER THE INPUT: true; the input reads as it did. -/
def segAgainSpec : ChangeSpec := { name := "segAgain", fn := fun _ => fun
  | [d1, d2] => { results := [.lit (.bool true)], args := [d1, d2] }
  | _ => none }
def segAgainRow : OpenClaim := { program := "ythnidgiogjehkaa", sum := "045541a043132a8a6559ca9b22a4b8dcddca92a68374db37067c075e102319b5", func := "downhaul/downhaullaw13.SegAgain", spec := "segAgain", unfollowed := true, recurses := true, apart := false }
def SegAgainSaid : Prop := segAgainRow.holds Try.pinned (OpenSpec.ofChange segAgainSpec)

/-- ITS FALSE NEIGHBOUR: 'it returns false'. Refute it at one input. -/
def segAgainWrong : ChangeSpec := { name := "segAgain", fn := fun _ => fun
  | [d1, d2] => { results := [.lit (.bool false)], args := [d1, d2] }
  | _ => none }
def SegAgainWrongFalsely : Prop := segAgainRow.holds Try.pinned (OpenSpec.ofChange segAgainWrong)

/-- 'downhaullaw13.SegTurns': WHATEVER THE INPUT: true; the input reads as it did. -/
def segTurnsSpec : ChangeSpec := { name := "segTurns", fn := fun _ => fun
  | [d1, d2, d3] => { results := [.lit (.bool true)], args := [d1, d2, d3] }
  | _ => none }
def segTurnsRow : OpenClaim := { program := "ythnidgiogjehkaa", sum := "045541a043132a8a6559ca9b22a4b8dcddca92a68374db37067c075e102319b5", func := "downhaul/downhaullaw13.SegTurns", spec := "segTurns", unfollowed := true, recurses := true, apart := false }
def SegTurnsSaid : Prop := segTurnsRow.holds Try.pinned (OpenSpec.ofChange segTurnsSpec)

/-- ITS FALSE NEIGHBOUR: 'it returns false'. Refute it at one input. -/
def segTurnsWrong : ChangeSpec := { name := "segTurns", fn := fun _ => fun
  | [d1, d2, d3] => { results := [.lit (.bool false)], args := [d1, d2, d3] }
  | _ => none }
def SegTurnsWrongFalsely : Prop := segTurnsRow.holds Try.pinned (OpenSpec.ofChange segTurnsWrong)

/-- 'downhaullaw13.SegTrimmed': WHATEVER THE INPUT: true; the input reads as it did. -/
def segTrimmedSpec : ChangeSpec := { name := "segTrimmed", fn := fun _ => fun
  | [d1, d2, d3] => { results := [.lit (.bool true)], args := [d1, d2, d3] }
  | _ => none }
def segTrimmedRow : OpenClaim := { program := "ythnidgiogjehkaa", sum := "045541a043132a8a6559ca9b22a4b8dcddca92a68374db37067c075e102319b5", func := "downhaul/downhaullaw13.SegTrimmed", spec := "segTrimmed", unfollowed := true, recurses := true, apart := false }
def SegTrimmedSaid : Prop := segTrimmedRow.holds Try.pinned (OpenSpec.ofChange segTrimmedSpec)

/-- ITS FALSE NEIGHBOUR: 'it returns false'. Refute it at one input. -/
def segTrimmedWrong : ChangeSpec := { name := "segTrimmed", fn := fun _ => fun
  | [d1, d2, d3] => { results := [.lit (.bool false)], args := [d1, d2, d3] }
  | _ => none }
def SegTrimmedWrongFalsely : Prop := segTrimmedRow.holds Try.pinned (OpenSpec.ofChange segTrimmedWrong)

/- THE SECOND FORM. 'bulk': how many values and letters a reading holds, each counted each time it is reached (what is shared counts as often as it is met; a slice's spare places count too). A statement '..UptoSaid' is the law's where the arguments, and the package variables that the reading takes, are together of bulk at most 1048576: NARROWER than '..Said'. Prove '..Said' where nothing that the law and all that it calls make is longer than what came in: it says more and counts as full. Else prove '..UptoSaid'. A law counts once. -/
mutual
def uptoBulk {H : Type} : DataW H → Nat
  | .lit (.string bytes) => bytes.length + 1
  | .lit _ => 1
  | .nil => 1
  | .ptr d => uptoBulk d + 1
  | .slice elems spare => uptoBulkAll elems + uptoBulkAll spare + 1
  | .agg parts => uptoBulkAll parts + 1
  | .iface _ d => uptoBulk d + 1
  | .map entries => uptoBulkEntries entries + 1
  | .held _ => 1
def uptoBulkAll {H : Type} : List (DataW H) → Nat
  | [] => 0
  | d :: r => uptoBulk d + uptoBulkAll r
def uptoBulkEntries {H : Type} : List (Lit × DataW H) → Nat
  | [] => 0
  | x :: r => uptoBulkEntry x + uptoBulkEntries r
def uptoBulkEntry {H : Type} : Lit × DataW H → Nat
  | (.string bytes, d) => bytes.length + uptoBulk d + 1
  | (_, d) => uptoBulk d + 1
 end
def uptoSmall : (H : Type) → List (DataW H) → Bool := fun _ ds => decide (uptoBulkAll ds ≤ 1048576)
def OpenSpec.upto (s : _root_.Go.ChangeSpec) : _root_.Go.OpenSpec := { _root_.Go.OpenSpec.ofChange s with cond := some uptoSmall }

/-- 'downhaullaw13.SegLays', WHERE WHAT IT READS IS OF BULK AT MOST 1048576: true; the input reads as it did. -/
def segLaysUptoRow : OpenClaim := { program := "ythnidgiogjehkaa", sum := "045541a043132a8a6559ca9b22a4b8dcddca92a68374db37067c075e102319b5", func := "downhaul/downhaullaw13.SegLays", spec := "segLays", unfollowed := true, recurses := true, apart := false, narrowed := true }
def SegLaysUptoSaid : Prop := segLaysUptoRow.holds Try.pinned (OpenSpec.upto segLaysSpec)

/-- 'downhaullaw13.SegParses', WHERE WHAT IT READS IS OF BULK AT MOST 1048576: true; the input reads as it did. -/
def segParsesUptoRow : OpenClaim := { program := "ythnidgiogjehkaa", sum := "045541a043132a8a6559ca9b22a4b8dcddca92a68374db37067c075e102319b5", func := "downhaul/downhaullaw13.SegParses", spec := "segParses", unfollowed := true, recurses := true, apart := false, narrowed := true }
def SegParsesUptoSaid : Prop := segParsesUptoRow.holds Try.pinned (OpenSpec.upto segParsesSpec)

/-- 'downhaullaw13.SegBack', WHERE WHAT IT READS IS OF BULK AT MOST 1048576: true; the input reads as it did. -/
def segBackUptoRow : OpenClaim := { program := "ythnidgiogjehkaa", sum := "045541a043132a8a6559ca9b22a4b8dcddca92a68374db37067c075e102319b5", func := "downhaul/downhaullaw13.SegBack", spec := "segBack", unfollowed := true, recurses := true, apart := false, narrowed := true }
def SegBackUptoSaid : Prop := segBackUptoRow.holds Try.pinned (OpenSpec.upto segBackSpec)

/-- 'downhaullaw13.SegAgain', WHERE WHAT IT READS IS OF BULK AT MOST 1048576: true; the input reads as it did. -/
def segAgainUptoRow : OpenClaim := { program := "ythnidgiogjehkaa", sum := "045541a043132a8a6559ca9b22a4b8dcddca92a68374db37067c075e102319b5", func := "downhaul/downhaullaw13.SegAgain", spec := "segAgain", unfollowed := true, recurses := true, apart := false, narrowed := true }
def SegAgainUptoSaid : Prop := segAgainUptoRow.holds Try.pinned (OpenSpec.upto segAgainSpec)

/-- 'downhaullaw13.SegTurns', WHERE WHAT IT READS IS OF BULK AT MOST 1048576: true; the input reads as it did. -/
def segTurnsUptoRow : OpenClaim := { program := "ythnidgiogjehkaa", sum := "045541a043132a8a6559ca9b22a4b8dcddca92a68374db37067c075e102319b5", func := "downhaul/downhaullaw13.SegTurns", spec := "segTurns", unfollowed := true, recurses := true, apart := false, narrowed := true }
def SegTurnsUptoSaid : Prop := segTurnsUptoRow.holds Try.pinned (OpenSpec.upto segTurnsSpec)

/-- 'downhaullaw13.SegTrimmed', WHERE WHAT IT READS IS OF BULK AT MOST 1048576: true; the input reads as it did. -/
def segTrimmedUptoRow : OpenClaim := { program := "ythnidgiogjehkaa", sum := "045541a043132a8a6559ca9b22a4b8dcddca92a68374db37067c075e102319b5", func := "downhaul/downhaullaw13.SegTrimmed", spec := "segTrimmed", unfollowed := true, recurses := true, apart := false, narrowed := true }
def SegTrimmedUptoSaid : Prop := segTrimmedUptoRow.holds Try.pinned (OpenSpec.upto segTrimmedSpec)

end Rows
end Go.Proofs.Ythnidgiogjehkaa
