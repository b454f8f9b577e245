/-
  No cell of these rows narrows 'for every input' (looked for: loops, veiled, ifaces, maps, wideKeys, modest, calm, conditions, laid).
  DERIVED. THE GIVEN ROWS OF THIS SEAT. 5 by the template 'for every input the law returns true; each argument reads behind the call as it read before'; 0 by the template 'total and deterministic' (their statements: YthodepdgmcagjaaTotals.lean).
  GIVEN WITH THE SEED: the statements are not yours to turn. If you find one false, say at which input.
  Laid BY PROGRAM, IN A SANDBOX (cutbox-rows.mjs): the forced cells as the released guide's own fill.sh prints them over the translation c182d47dbad1b95c… (all of the seat's roots in one cut). By AI agents, Wed Nov 11 2026. No macro, syntax, notation, axiom, sorry.
-/
import Derived.Test.YthodepdgmcagjaaChecked
import GoSem.Claim
import GoSem.ClaimJoined
import GoSem.ClaimMapViews
import Derived.JoinedTies
import Derived.KernelRfl
namespace Go.Proofs.Ythodepdgmcagjaa
/- THE CELL 'sum', in the pinned program and in every row, IS THE sha256 OF THE DUMP (.gsa) THAT YthodepdgmcagjaaProg.lean LOADS. Nothing in Lean hashes anything: it is a label: what it is worth is what the hold of that sum in a sandbox is worth. -/
noncomputable def Try.pinned : Pinned := { name := "ythodepdgmcagjaa", sum := "c182d47dbad1b95c3e35cff9aa6978d5cbd820b5bb85f0291ac804307d04868a", checked := Try.checked }
namespace Rows
def none {H : Type} : Left H := { results := [], args := [] }

/-- 'downhaullaw12.OptsLays': WHATEVER THE INPUT: true; the input reads as it did. -/
def optsLaysSpec : ChangeSpec := { name := "optsLays", fn := fun _ => fun
  | [d1, d2] => { results := [.lit (.bool true)], args := [d1, d2] }
  | _ => none }
def optsLaysRow : OpenClaim := { program := "ythodepdgmcagjaa", sum := "c182d47dbad1b95c3e35cff9aa6978d5cbd820b5bb85f0291ac804307d04868a", func := "downhaul/downhaullaw12.OptsLays", spec := "optsLays", unfollowed := true, recurses := true, apart := false }
def OptsLaysSaid : Prop := optsLaysRow.holds Try.pinned (OpenSpec.ofChange optsLaysSpec)

/-- ITS FALSE NEIGHBOUR: 'it returns false'. Refute it at one input. -/
def optsLaysWrong : ChangeSpec := { name := "optsLays", fn := fun _ => fun
  | [d1, d2] => { results := [.lit (.bool false)], args := [d1, d2] }
  | _ => none }
def OptsLaysWrongFalsely : Prop := optsLaysRow.holds Try.pinned (OpenSpec.ofChange optsLaysWrong)

/-- 'downhaullaw12.OptsBack': WHATEVER THE INPUT: true; the input reads as it did. -/
def optsBackSpec : ChangeSpec := { name := "optsBack", fn := fun _ => fun
  | [d] => { results := [.lit (.bool true)], args := [d] }
  | _ => none }
def optsBackRow : OpenClaim := { program := "ythodepdgmcagjaa", sum := "c182d47dbad1b95c3e35cff9aa6978d5cbd820b5bb85f0291ac804307d04868a", func := "downhaul/downhaullaw12.OptsBack", spec := "optsBack", unfollowed := true, recurses := true, apart := false }
def OptsBackSaid : Prop := optsBackRow.holds Try.pinned (OpenSpec.ofChange optsBackSpec)

/-- ITS FALSE NEIGHBOUR: 'it returns false'. Refute it at one input. -/
def optsBackWrong : ChangeSpec := { name := "optsBack", fn := fun _ => fun
  | [d] => { results := [.lit (.bool false)], args := [d] }
  | _ => none }
def OptsBackWrongFalsely : Prop := optsBackRow.holds Try.pinned (OpenSpec.ofChange optsBackWrong)

/-- 'downhaullaw12.OptsAgain': WHATEVER THE INPUT: true; the input reads as it did. -/
def optsAgainSpec : ChangeSpec := { name := "optsAgain", fn := fun _ => fun
  | [d] => { results := [.lit (.bool true)], args := [d] }
  | _ => none }
def optsAgainRow : OpenClaim := { program := "ythodepdgmcagjaa", sum := "c182d47dbad1b95c3e35cff9aa6978d5cbd820b5bb85f0291ac804307d04868a", func := "downhaul/downhaullaw12.OptsAgain", spec := "optsAgain", unfollowed := true, recurses := true, apart := false }
def OptsAgainSaid : Prop := optsAgainRow.holds Try.pinned (OpenSpec.ofChange optsAgainSpec)

/-- ITS FALSE NEIGHBOUR: 'it returns false'. Refute it at one input. -/
def optsAgainWrong : ChangeSpec := { name := "optsAgain", fn := fun _ => fun
  | [d] => { results := [.lit (.bool false)], args := [d] }
  | _ => none }
def OptsAgainWrongFalsely : Prop := optsAgainRow.holds Try.pinned (OpenSpec.ofChange optsAgainWrong)

/-- 'downhaullaw12.OptsFits': WHATEVER THE INPUT: true; the input reads as it did. -/
def optsFitsSpec : ChangeSpec := { name := "optsFits", fn := fun _ => fun
  | [d] => { results := [.lit (.bool true)], args := [d] }
  | _ => none }
def optsFitsRow : OpenClaim := { program := "ythodepdgmcagjaa", sum := "c182d47dbad1b95c3e35cff9aa6978d5cbd820b5bb85f0291ac804307d04868a", func := "downhaul/downhaullaw12.OptsFits", spec := "optsFits", unfollowed := true, recurses := true, apart := false }
def OptsFitsSaid : Prop := optsFitsRow.holds Try.pinned (OpenSpec.ofChange optsFitsSpec)

/-- ITS FALSE NEIGHBOUR: 'it returns false'. Refute it at one input. -/
def optsFitsWrong : ChangeSpec := { name := "optsFits", fn := fun _ => fun
  | [d] => { results := [.lit (.bool false)], args := [d] }
  | _ => none }
def OptsFitsWrongFalsely : Prop := optsFitsRow.holds Try.pinned (OpenSpec.ofChange optsFitsWrong)

/-- 'downhaullaw12.OptsTurns': WHATEVER THE INPUT: true; the input reads as it did. -/
def optsTurnsSpec : ChangeSpec := { name := "optsTurns", fn := fun _ => fun
  | [d] => { results := [.lit (.bool true)], args := [d] }
  | _ => none }
def optsTurnsRow : OpenClaim := { program := "ythodepdgmcagjaa", sum := "c182d47dbad1b95c3e35cff9aa6978d5cbd820b5bb85f0291ac804307d04868a", func := "downhaul/downhaullaw12.OptsTurns", spec := "optsTurns", unfollowed := true, recurses := true, apart := false }
def OptsTurnsSaid : Prop := optsTurnsRow.holds Try.pinned (OpenSpec.ofChange optsTurnsSpec)

/-- ITS FALSE NEIGHBOUR: 'it returns false'. Refute it at one input. -/
def optsTurnsWrong : ChangeSpec := { name := "optsTurns", fn := fun _ => fun
  | [d] => { results := [.lit (.bool false)], args := [d] }
  | _ => none }
def OptsTurnsWrongFalsely : Prop := optsTurnsRow.holds Try.pinned (OpenSpec.ofChange optsTurnsWrong)

/- THE SECOND FORM. 'bulk': how many values and letters a reading holds, each counted each time it is reached (what is shared counts as often as it is met; a slice's spare places count too). A statement '..UptoSaid' is the law's where the arguments, and the package variables that the reading takes, are together of bulk at most 1048576: NARROWER than '..Said'. Prove '..Said' where nothing that the law and all that it calls make is longer than what came in: it says more and counts as full. Else prove '..UptoSaid'. A law counts once. -/
mutual
def uptoBulk {H : Type} : DataW H → Nat
  | .lit (.string bytes) => bytes.length + 1
  | .lit _ => 1
  | .nil => 1
  | .ptr d => uptoBulk d + 1
  | .slice elems spare => uptoBulkAll elems + uptoBulkAll spare + 1
  | .agg parts => uptoBulkAll parts + 1
  | .iface _ d => uptoBulk d + 1
  | .map entries => uptoBulkEntries entries + 1
  | .held _ => 1
def uptoBulkAll {H : Type} : List (DataW H) → Nat
  | [] => 0
  | d :: r => uptoBulk d + uptoBulkAll r
def uptoBulkEntries {H : Type} : List (Lit × DataW H) → Nat
  | [] => 0
  | x :: r => uptoBulkEntry x + uptoBulkEntries r
def uptoBulkEntry {H : Type} : Lit × DataW H → Nat
  | (.string bytes, d) => bytes.length + uptoBulk d + 1
  | (_, d) => uptoBulk d + 1
 end
def uptoSmall : (H : Type) → List (DataW H) → Bool := fun _ ds => decide (uptoBulkAll ds ≤ 1048576)
def OpenSpec.upto (s : _root_.Go.ChangeSpec) : _root_.Go.OpenSpec := { _root_.Go.OpenSpec.ofChange s with cond := some uptoSmall }

/-- 'downhaullaw12.OptsLays', WHERE WHAT IT READS IS OF BULK AT MOST 1048576: true; the input reads as it did. -/
def optsLaysUptoRow : OpenClaim := { program := "ythodepdgmcagjaa", sum := "c182d47dbad1b95c3e35cff9aa6978d5cbd820b5bb85f0291ac804307d04868a", func := "downhaul/downhaullaw12.OptsLays", spec := "optsLays", unfollowed := true, recurses := true, apart := false, narrowed := true }
def OptsLaysUptoSaid : Prop := optsLaysUptoRow.holds Try.pinned (OpenSpec.upto optsLaysSpec)

/-- 'downhaullaw12.OptsBack', WHERE WHAT IT READS IS OF BULK AT MOST 1048576: true; the input reads as it did. -/
def optsBackUptoRow : OpenClaim := { program := "ythodepdgmcagjaa", sum := "c182d47dbad1b95c3e35cff9aa6978d5cbd820b5bb85f0291ac804307d04868a", func := "downhaul/downhaullaw12.OptsBack", spec := "optsBack", unfollowed := true, recurses := true, apart := false, narrowed := true }
def OptsBackUptoSaid : Prop := optsBackUptoRow.holds Try.pinned (OpenSpec.upto optsBackSpec)

/-- 'downhaullaw12.OptsAgain', WHERE WHAT IT READS IS OF BULK AT MOST 1048576: true; the input reads as it did. -/
def optsAgainUptoRow : OpenClaim := { program := "ythodepdgmcagjaa", sum := "c182d47dbad1b95c3e35cff9aa6978d5cbd820b5bb85f0291ac804307d04868a", func := "downhaul/downhaullaw12.OptsAgain", spec := "optsAgain", unfollowed := true, recurses := true, apart := false, narrowed := true }
def OptsAgainUptoSaid : Prop := optsAgainUptoRow.holds Try.pinned (OpenSpec.upto optsAgainSpec)

/-- 'downhaullaw12.OptsFits', WHERE WHAT IT READS IS OF BULK AT MOST 1048576: true; the input reads as it did. -/
def optsFitsUptoRow : OpenClaim := { program := "ythodepdgmcagjaa", sum := "c182d47dbad1b95c3e35cff9aa6978d5cbd820b5bb85f0291ac804307d04868a", func := "downhaul/downhaullaw12.OptsFits", spec := "optsFits", unfollowed := true, recurses := true, apart := false, narrowed := true }
def OptsFitsUptoSaid : Prop := optsFitsUptoRow.holds Try.pinned (OpenSpec.upto optsFitsSpec)

/-- 'downhaullaw12.OptsTurns', WHERE WHAT IT READS IS OF BULK AT MOST 1048576: true; the input reads as it did. -/
def optsTurnsUptoRow : OpenClaim := { program := "ythodepdgmcagjaa", sum := "c182d47dbad1b95c3e35cff9aa6978d5cbd820b5bb85f0291ac804307d04868a", func := "downhaul/downhaullaw12.OptsTurns", spec := "optsTurns", unfollowed := true, recurses := true, apart := false, narrowed := true }
def OptsTurnsUptoSaid : Prop := optsTurnsUptoRow.holds Try.pinned (OpenSpec.upto optsTurnsSpec)

end Rows
end Go.Proofs.Ythodepdgmcagjaa
