/-
  No cell of these rows narrows 'for every input' (looked for: loops, veiled, ifaces, maps, wideKeys, modest, calm, conditions, laid).
  DERIVED. THE GIVEN ROWS OF THIS SEAT. 4 by the template 'for every input the law returns true; each argument reads behind the call as it read before'; 0 by the template 'total and deterministic' (their statements: YtpcfgihomplehaaTotals.lean).
  GIVEN WITH THE SEED: the statements are not yours to turn. If you find one false, say at which input.
  Laid BY PROGRAM, IN A SANDBOX (cutbox-rows.mjs): the forced cells as the released guide's own fill.sh prints them over the translation 692de901d7afd5cc… (all of the seat's roots in one cut). By AI agents, Wed Nov 11 2026. No macro, syntax, notation, axiom, sorry.
-/
import Derived.Test.YtpcfgihomplehaaChecked
import GoSem.Claim
import GoSem.ClaimJoined
import GoSem.ClaimMapViews
import Derived.JoinedTies
import Derived.KernelRfl
namespace Go.Proofs.Ytpcfgihomplehaa
/- THE CELL 'sum', in the pinned program and in every row, IS THE sha256 OF THE DUMP (.gsa) THAT YtpcfgihomplehaaProg.lean LOADS. Nothing in Lean hashes anything: it is a label: what it is worth is what the hold of that sum in a sandbox is worth. -/
noncomputable def Try.pinned : Pinned := { name := "ytpcfgihomplehaa", sum := "692de901d7afd5ccbf37b7ecc19c2b66d88063f8536837b16d03975df85e3f18", checked := Try.checked }
namespace Rows
def none {H : Type} : Left H := { results := [], args := [] }

/-- 'downhaullaw10.IpfourLays': WHATEVER THE INPUT: true; the input reads as it did. -/
def ipfourLaysSpec : ChangeSpec := { name := "ipfourLays", fn := fun _ => fun
  | [d1, d2] => { results := [.lit (.bool true)], args := [d1, d2] }
  | _ => none }
def ipfourLaysRow : OpenClaim := { program := "ytpcfgihomplehaa", sum := "692de901d7afd5ccbf37b7ecc19c2b66d88063f8536837b16d03975df85e3f18", func := "downhaul/downhaullaw10.IpfourLays", spec := "ipfourLays", unfollowed := true, recurses := true, apart := false }
def IpfourLaysSaid : Prop := ipfourLaysRow.holds Try.pinned (OpenSpec.ofChange ipfourLaysSpec)

/-- ITS FALSE NEIGHBOUR: 'it returns false'. Refute it at one input. -/
def ipfourLaysWrong : ChangeSpec := { name := "ipfourLays", fn := fun _ => fun
  | [d1, d2] => { results := [.lit (.bool false)], args := [d1, d2] }
  | _ => none }
def IpfourLaysWrongFalsely : Prop := ipfourLaysRow.holds Try.pinned (OpenSpec.ofChange ipfourLaysWrong)

/-- 'downhaullaw10.IpfourBack': WHATEVER THE INPUT: true; the input reads as it did. -/
def ipfourBackSpec : ChangeSpec := { name := "ipfourBack", fn := fun _ => fun
  | [d1, d2] => { results := [.lit (.bool true)], args := [d1, d2] }
  | _ => none }
def ipfourBackRow : OpenClaim := { program := "ytpcfgihomplehaa", sum := "692de901d7afd5ccbf37b7ecc19c2b66d88063f8536837b16d03975df85e3f18", func := "downhaul/downhaullaw10.IpfourBack", spec := "ipfourBack", unfollowed := true, recurses := true, apart := false }
def IpfourBackSaid : Prop := ipfourBackRow.holds Try.pinned (OpenSpec.ofChange ipfourBackSpec)

/-- ITS FALSE NEIGHBOUR: 'it returns false'. Refute it at one input. -/
def ipfourBackWrong : ChangeSpec := { name := "ipfourBack", fn := fun _ => fun
  | [d1, d2] => { results := [.lit (.bool false)], args := [d1, d2] }
  | _ => none }
def IpfourBackWrongFalsely : Prop := ipfourBackRow.holds Try.pinned (OpenSpec.ofChange ipfourBackWrong)

/-- 'downhaullaw10.IpfourAgain': WHATEVER THE INPUT: true; the input reads as it did. -/
def ipfourAgainSpec : ChangeSpec := { name := "ipfourAgain", fn := fun _ => fun
  | [d] => { results := [.lit (.bool true)], args := [d] }
  | _ => none }
def ipfourAgainRow : OpenClaim := { program := "ytpcfgihomplehaa", sum := "692de901d7afd5ccbf37b7ecc19c2b66d88063f8536837b16d03975df85e3f18", func := "downhaul/downhaullaw10.IpfourAgain", spec := "ipfourAgain", unfollowed := true, recurses := true, apart := false }
def IpfourAgainSaid : Prop := ipfourAgainRow.holds Try.pinned (OpenSpec.ofChange ipfourAgainSpec)

/-- ITS FALSE NEIGHBOUR: 'it returns false'. Refute it at one input. -/
def ipfourAgainWrong : ChangeSpec := { name := "ipfourAgain", fn := fun _ => fun
  | [d] => { results := [.lit (.bool false)], args := [d] }
  | _ => none }
def IpfourAgainWrongFalsely : Prop := ipfourAgainRow.holds Try.pinned (OpenSpec.ofChange ipfourAgainWrong)

/-- 'downhaullaw10.IpfourTurned': WHATEVER THE INPUT: true; the input reads as it did. -/
def ipfourTurnedSpec : ChangeSpec := { name := "ipfourTurned", fn := fun _ => fun
  | [d1, d2] => { results := [.lit (.bool true)], args := [d1, d2] }
  | _ => none }
def ipfourTurnedRow : OpenClaim := { program := "ytpcfgihomplehaa", sum := "692de901d7afd5ccbf37b7ecc19c2b66d88063f8536837b16d03975df85e3f18", func := "downhaul/downhaullaw10.IpfourTurned", spec := "ipfourTurned", unfollowed := true, recurses := true, apart := false }
def IpfourTurnedSaid : Prop := ipfourTurnedRow.holds Try.pinned (OpenSpec.ofChange ipfourTurnedSpec)

/-- ITS FALSE NEIGHBOUR: 'it returns false'. Refute it at one input. -/
def ipfourTurnedWrong : ChangeSpec := { name := "ipfourTurned", fn := fun _ => fun
  | [d1, d2] => { results := [.lit (.bool false)], args := [d1, d2] }
  | _ => none }
def IpfourTurnedWrongFalsely : Prop := ipfourTurnedRow.holds Try.pinned (OpenSpec.ofChange ipfourTurnedWrong)

/- THE SECOND FORM. 'bulk': how many values and letters a reading holds, each counted each time it is reached (what is shared counts as often as it is met; a slice's spare places count too). A statement '..UptoSaid' is the law's where the arguments, and the package variables that the reading takes, are together of bulk at most 1048576: NARROWER than '..Said'. Prove '..Said' where nothing that the law and all that it calls make is longer than what came in: it says more and counts as full. Else prove '..UptoSaid'. A law counts once. -/
mutual
def uptoBulk {H : Type} : DataW H → Nat
  | .lit (.string bytes) => bytes.length + 1
  | .lit _ => 1
  | .nil => 1
  | .ptr d => uptoBulk d + 1
  | .slice elems spare => uptoBulkAll elems + uptoBulkAll spare + 1
  | .agg parts => uptoBulkAll parts + 1
  | .iface _ d => uptoBulk d + 1
  | .map entries => uptoBulkEntries entries + 1
  | .held _ => 1
def uptoBulkAll {H : Type} : List (DataW H) → Nat
  | [] => 0
  | d :: r => uptoBulk d + uptoBulkAll r
def uptoBulkEntries {H : Type} : List (Lit × DataW H) → Nat
  | [] => 0
  | x :: r => uptoBulkEntry x + uptoBulkEntries r
def uptoBulkEntry {H : Type} : Lit × DataW H → Nat
  | (.string bytes, d) => bytes.length + uptoBulk d + 1
  | (_, d) => uptoBulk d + 1
 end
def uptoSmall : (H : Type) → List (DataW H) → Bool := fun _ ds => decide (uptoBulkAll ds ≤ 1048576)
def OpenSpec.upto (s : _root_.Go.ChangeSpec) : _root_.Go.OpenSpec := { _root_.Go.OpenSpec.ofChange s with cond := some uptoSmall }

/-- 'downhaullaw10.IpfourLays', WHERE WHAT IT READS IS OF BULK AT MOST 1048576: true; the input reads as it did. -/
def ipfourLaysUptoRow : OpenClaim := { program := "ytpcfgihomplehaa", sum := "692de901d7afd5ccbf37b7ecc19c2b66d88063f8536837b16d03975df85e3f18", func := "downhaul/downhaullaw10.IpfourLays", spec := "ipfourLays", unfollowed := true, recurses := true, apart := false, narrowed := true }
def IpfourLaysUptoSaid : Prop := ipfourLaysUptoRow.holds Try.pinned (OpenSpec.upto ipfourLaysSpec)

/-- 'downhaullaw10.IpfourBack', WHERE WHAT IT READS IS OF BULK AT MOST 1048576: true; the input reads as it did. -/
def ipfourBackUptoRow : OpenClaim := { program := "ytpcfgihomplehaa", sum := "692de901d7afd5ccbf37b7ecc19c2b66d88063f8536837b16d03975df85e3f18", func := "downhaul/downhaullaw10.IpfourBack", spec := "ipfourBack", unfollowed := true, recurses := true, apart := false, narrowed := true }
def IpfourBackUptoSaid : Prop := ipfourBackUptoRow.holds Try.pinned (OpenSpec.upto ipfourBackSpec)

/-- 'downhaullaw10.IpfourAgain', WHERE WHAT IT READS IS OF BULK AT MOST 1048576: true; the input reads as it did. -/
def ipfourAgainUptoRow : OpenClaim := { program := "ytpcfgihomplehaa", sum := "692de901d7afd5ccbf37b7ecc19c2b66d88063f8536837b16d03975df85e3f18", func := "downhaul/downhaullaw10.IpfourAgain", spec := "ipfourAgain", unfollowed := true, recurses := true, apart := false, narrowed := true }
def IpfourAgainUptoSaid : Prop := ipfourAgainUptoRow.holds Try.pinned (OpenSpec.upto ipfourAgainSpec)

/-- 'downhaullaw10.IpfourTurned', WHERE WHAT IT READS IS OF BULK AT MOST 1048576: true; the input reads as it did. -/
def ipfourTurnedUptoRow : OpenClaim := { program := "ytpcfgihomplehaa", sum := "692de901d7afd5ccbf37b7ecc19c2b66d88063f8536837b16d03975df85e3f18", func := "downhaul/downhaullaw10.IpfourTurned", spec := "ipfourTurned", unfollowed := true, recurses := true, apart := false, narrowed := true }
def IpfourTurnedUptoSaid : Prop := ipfourTurnedUptoRow.holds Try.pinned (OpenSpec.upto ipfourTurnedSpec)

end Rows
end Go.Proofs.Ytpcfgihomplehaa
