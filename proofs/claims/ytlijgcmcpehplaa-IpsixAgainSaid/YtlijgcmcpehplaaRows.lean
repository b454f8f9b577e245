/-
  No cell of these rows narrows 'for every input' (looked for: loops, veiled, ifaces, maps, wideKeys, modest, calm, conditions, laid).
  DERIVED. THE GIVEN ROWS OF THIS SEAT. 6 by the template 'for every input the law returns true; each argument reads behind the call as it read before'; 0 by the template 'total and deterministic' (their statements: YtlijgcmcpehplaaTotals.lean).
  GIVEN WITH THE SEED: the statements are not yours to turn. If you find one false, say at which input.
  Laid BY PROGRAM, IN A SANDBOX (cutbox-rows.mjs): the forced cells as the released guide's own fill.sh prints them over the translation 5cd51a523765ca69… (all of the seat's roots in one cut). By AI agents, Wed Nov 11 2026. No macro, syntax, notation, axiom, sorry.
-/
import Derived.Test.YtlijgcmcpehplaaChecked
import GoSem.Claim
import GoSem.ClaimJoined
import GoSem.ClaimMapViews
import Derived.JoinedTies
import Derived.KernelRfl
namespace Go.Proofs.Ytlijgcmcpehplaa
/- THE CELL 'sum', in the pinned program and in every row, IS THE sha256 OF THE DUMP (.gsa) THAT YtlijgcmcpehplaaProg.lean LOADS. Nothing in Lean hashes anything: it is a label: what it is worth is what the hold of that sum in a sandbox is worth. -/
noncomputable def Try.pinned : Pinned := { name := "ytlijgcmcpehplaa", sum := "5cd51a523765ca6982979b9182c25b3f77f358f0c14510a5347c22208f9d71a1", checked := Try.checked }
namespace Rows
def none {H : Type} : Left H := { results := [], args := [] }

/-- 'downhaullaw11.IpsixLays': WHATEVER THE INPUT: true; the input reads as it did. -/
def ipsixLaysSpec : ChangeSpec := { name := "ipsixLays", fn := fun _ => fun
  | [d] => { results := [.lit (.bool true)], args := [d] }
  | _ => none }
def ipsixLaysRow : OpenClaim := { program := "ytlijgcmcpehplaa", sum := "5cd51a523765ca6982979b9182c25b3f77f358f0c14510a5347c22208f9d71a1", func := "downhaul/downhaullaw11.IpsixLays", spec := "ipsixLays", unfollowed := true, recurses := true, apart := false }
def IpsixLaysSaid : Prop := ipsixLaysRow.holds Try.pinned (OpenSpec.ofChange ipsixLaysSpec)

/-- ITS FALSE NEIGHBOUR: 'it returns false'. Refute it at one input. -/
def ipsixLaysWrong : ChangeSpec := { name := "ipsixLays", fn := fun _ => fun
  | [d] => { results := [.lit (.bool false)], args := [d] }
  | _ => none }
def IpsixLaysWrongFalsely : Prop := ipsixLaysRow.holds Try.pinned (OpenSpec.ofChange ipsixLaysWrong)

/-- 'downhaullaw11.IpsixWraps': WHATEVER THE INPUT: true; the input reads as it did. -/
def ipsixWrapsSpec : ChangeSpec := { name := "ipsixWraps", fn := fun _ => fun
  | [d1, d2, d3] => { results := [.lit (.bool true)], args := [d1, d2, d3] }
  | _ => none }
def ipsixWrapsRow : OpenClaim := { program := "ytlijgcmcpehplaa", sum := "5cd51a523765ca6982979b9182c25b3f77f358f0c14510a5347c22208f9d71a1", func := "downhaul/downhaullaw11.IpsixWraps", spec := "ipsixWraps", unfollowed := true, recurses := true, apart := false }
def IpsixWrapsSaid : Prop := ipsixWrapsRow.holds Try.pinned (OpenSpec.ofChange ipsixWrapsSpec)

/-- ITS FALSE NEIGHBOUR: 'it returns false'. Refute it at one input. -/
def ipsixWrapsWrong : ChangeSpec := { name := "ipsixWraps", fn := fun _ => fun
  | [d1, d2, d3] => { results := [.lit (.bool false)], args := [d1, d2, d3] }
  | _ => none }
def IpsixWrapsWrongFalsely : Prop := ipsixWrapsRow.holds Try.pinned (OpenSpec.ofChange ipsixWrapsWrong)

/-- 'downhaullaw11.IpsixBack': WHATEVER THE INPUT: true; the input reads as it did. -/
def ipsixBackSpec : ChangeSpec := { name := "ipsixBack", fn := fun _ => fun
  | [d1, d2] => { results := [.lit (.bool true)], args := [d1, d2] }
  | _ => none }
def ipsixBackRow : OpenClaim := { program := "ytlijgcmcpehplaa", sum := "5cd51a523765ca6982979b9182c25b3f77f358f0c14510a5347c22208f9d71a1", func := "downhaul/downhaullaw11.IpsixBack", spec := "ipsixBack", unfollowed := true, recurses := true, apart := false }
def IpsixBackSaid : Prop := ipsixBackRow.holds Try.pinned (OpenSpec.ofChange ipsixBackSpec)

/-- ITS FALSE NEIGHBOUR: 'it returns false'. Refute it at one input. -/
def ipsixBackWrong : ChangeSpec := { name := "ipsixBack", fn := fun _ => fun
  | [d1, d2] => { results := [.lit (.bool false)], args := [d1, d2] }
  | _ => none }
def IpsixBackWrongFalsely : Prop := ipsixBackRow.holds Try.pinned (OpenSpec.ofChange ipsixBackWrong)

/-- 'downhaullaw11.IpsixWrapped': WHATEVER THE INPUT: true; the input reads as it did. -/
def ipsixWrappedSpec : ChangeSpec := { name := "ipsixWrapped", fn := fun _ => fun
  | [d1, d2, d3] => { results := [.lit (.bool true)], args := [d1, d2, d3] }
  | _ => none }
def ipsixWrappedRow : OpenClaim := { program := "ytlijgcmcpehplaa", sum := "5cd51a523765ca6982979b9182c25b3f77f358f0c14510a5347c22208f9d71a1", func := "downhaul/downhaullaw11.IpsixWrapped", spec := "ipsixWrapped", unfollowed := true, recurses := true, apart := false }
def IpsixWrappedSaid : Prop := ipsixWrappedRow.holds Try.pinned (OpenSpec.ofChange ipsixWrappedSpec)

/-- ITS FALSE NEIGHBOUR: 'it returns false'. Refute it at one input. -/
def ipsixWrappedWrong : ChangeSpec := { name := "ipsixWrapped", fn := fun _ => fun
  | [d1, d2, d3] => { results := [.lit (.bool false)], args := [d1, d2, d3] }
  | _ => none }
def IpsixWrappedWrongFalsely : Prop := ipsixWrappedRow.holds Try.pinned (OpenSpec.ofChange ipsixWrappedWrong)

/-- 'downhaullaw11.IpsixParses': WHATEVER THE INPUT: true; the input reads as it did. -/
def ipsixParsesSpec : ChangeSpec := { name := "ipsixParses", fn := fun _ => fun
  | [d] => { results := [.lit (.bool true)], args := [d] }
  | _ => none }
def ipsixParsesRow : OpenClaim := { program := "ytlijgcmcpehplaa", sum := "5cd51a523765ca6982979b9182c25b3f77f358f0c14510a5347c22208f9d71a1", func := "downhaul/downhaullaw11.IpsixParses", spec := "ipsixParses", unfollowed := true, recurses := true, apart := false }
def IpsixParsesSaid : Prop := ipsixParsesRow.holds Try.pinned (OpenSpec.ofChange ipsixParsesSpec)

/-- ITS FALSE NEIGHBOUR: 'it returns false'. Refute it at one input. -/
def ipsixParsesWrong : ChangeSpec := { name := "ipsixParses", fn := fun _ => fun
  | [d] => { results := [.lit (.bool false)], args := [d] }
  | _ => none }
def IpsixParsesWrongFalsely : Prop := ipsixParsesRow.holds Try.pinned (OpenSpec.ofChange ipsixParsesWrong)

/-- 'downhaullaw11.IpsixAgain': WHATEVER THE INPUT: true; the input reads as it did. -/
def ipsixAgainSpec : ChangeSpec := { name := "ipsixAgain", fn := fun _ => fun
  | [d] => { results := [.lit (.bool true)], args := [d] }
  | _ => none }
def ipsixAgainRow : OpenClaim := { program := "ytlijgcmcpehplaa", sum := "5cd51a523765ca6982979b9182c25b3f77f358f0c14510a5347c22208f9d71a1", func := "downhaul/downhaullaw11.IpsixAgain", spec := "ipsixAgain", unfollowed := true, recurses := true, apart := false }
def IpsixAgainSaid : Prop := ipsixAgainRow.holds Try.pinned (OpenSpec.ofChange ipsixAgainSpec)

/-- ITS FALSE NEIGHBOUR: 'it returns false'. Refute it at one input. -/
def ipsixAgainWrong : ChangeSpec := { name := "ipsixAgain", fn := fun _ => fun
  | [d] => { results := [.lit (.bool false)], args := [d] }
  | _ => none }
def IpsixAgainWrongFalsely : Prop := ipsixAgainRow.holds Try.pinned (OpenSpec.ofChange ipsixAgainWrong)

/- THE SECOND FORM. 'bulk': how many values and letters a reading holds, each counted each time it is reached (what is shared counts as often as it is met; a slice's spare places count too). A statement '..UptoSaid' is the law's where the arguments, and the package variables that the reading takes, are together of bulk at most 1048576: NARROWER than '..Said'. Prove '..Said' where nothing that the law and all that it calls make is longer than what came in: it says more and counts as full. Else prove '..UptoSaid'. A law counts once. -/
mutual
def uptoBulk {H : Type} : DataW H → Nat
  | .lit (.string bytes) => bytes.length + 1
  | .lit _ => 1
  | .nil => 1
  | .ptr d => uptoBulk d + 1
  | .slice elems spare => uptoBulkAll elems + uptoBulkAll spare + 1
  | .agg parts => uptoBulkAll parts + 1
  | .iface _ d => uptoBulk d + 1
  | .map entries => uptoBulkEntries entries + 1
  | .held _ => 1
def uptoBulkAll {H : Type} : List (DataW H) → Nat
  | [] => 0
  | d :: r => uptoBulk d + uptoBulkAll r
def uptoBulkEntries {H : Type} : List (Lit × DataW H) → Nat
  | [] => 0
  | x :: r => uptoBulkEntry x + uptoBulkEntries r
def uptoBulkEntry {H : Type} : Lit × DataW H → Nat
  | (.string bytes, d) => bytes.length + uptoBulk d + 1
  | (_, d) => uptoBulk d + 1
 end
def uptoSmall : (H : Type) → List (DataW H) → Bool := fun _ ds => decide (uptoBulkAll ds ≤ 1048576)
def OpenSpec.upto (s : _root_.Go.ChangeSpec) : _root_.Go.OpenSpec := { _root_.Go.OpenSpec.ofChange s with cond := some uptoSmall }

/-- 'downhaullaw11.IpsixLays', WHERE WHAT IT READS IS OF BULK AT MOST 1048576: true; the input reads as it did. -/
def ipsixLaysUptoRow : OpenClaim := { program := "ytlijgcmcpehplaa", sum := "5cd51a523765ca6982979b9182c25b3f77f358f0c14510a5347c22208f9d71a1", func := "downhaul/downhaullaw11.IpsixLays", spec := "ipsixLays", unfollowed := true, recurses := true, apart := false, narrowed := true }
def IpsixLaysUptoSaid : Prop := ipsixLaysUptoRow.holds Try.pinned (OpenSpec.upto ipsixLaysSpec)

/-- 'downhaullaw11.IpsixWraps', WHERE WHAT IT READS IS OF BULK AT MOST 1048576: true; the input reads as it did. -/
def ipsixWrapsUptoRow : OpenClaim := { program := "ytlijgcmcpehplaa", sum := "5cd51a523765ca6982979b9182c25b3f77f358f0c14510a5347c22208f9d71a1", func := "downhaul/downhaullaw11.IpsixWraps", spec := "ipsixWraps", unfollowed := true, recurses := true, apart := false, narrowed := true }
def IpsixWrapsUptoSaid : Prop := ipsixWrapsUptoRow.holds Try.pinned (OpenSpec.upto ipsixWrapsSpec)

/-- 'downhaullaw11.IpsixBack', WHERE WHAT IT READS IS OF BULK AT MOST 1048576: true; the input reads as it did. -/
def ipsixBackUptoRow : OpenClaim := { program := "ytlijgcmcpehplaa", sum := "5cd51a523765ca6982979b9182c25b3f77f358f0c14510a5347c22208f9d71a1", func := "downhaul/downhaullaw11.IpsixBack", spec := "ipsixBack", unfollowed := true, recurses := true, apart := false, narrowed := true }
def IpsixBackUptoSaid : Prop := ipsixBackUptoRow.holds Try.pinned (OpenSpec.upto ipsixBackSpec)

/-- 'downhaullaw11.IpsixWrapped', WHERE WHAT IT READS IS OF BULK AT MOST 1048576: true; the input reads as it did. -/
def ipsixWrappedUptoRow : OpenClaim := { program := "ytlijgcmcpehplaa", sum := "5cd51a523765ca6982979b9182c25b3f77f358f0c14510a5347c22208f9d71a1", func := "downhaul/downhaullaw11.IpsixWrapped", spec := "ipsixWrapped", unfollowed := true, recurses := true, apart := false, narrowed := true }
def IpsixWrappedUptoSaid : Prop := ipsixWrappedUptoRow.holds Try.pinned (OpenSpec.upto ipsixWrappedSpec)

/-- 'downhaullaw11.IpsixParses', WHERE WHAT IT READS IS OF BULK AT MOST 1048576: true; the input reads as it did. -/
def ipsixParsesUptoRow : OpenClaim := { program := "ytlijgcmcpehplaa", sum := "5cd51a523765ca6982979b9182c25b3f77f358f0c14510a5347c22208f9d71a1", func := "downhaul/downhaullaw11.IpsixParses", spec := "ipsixParses", unfollowed := true, recurses := true, apart := false, narrowed := true }
def IpsixParsesUptoSaid : Prop := ipsixParsesUptoRow.holds Try.pinned (OpenSpec.upto ipsixParsesSpec)

/-- 'downhaullaw11.IpsixAgain', WHERE WHAT IT READS IS OF BULK AT MOST 1048576: true; the input reads as it did. -/
def ipsixAgainUptoRow : OpenClaim := { program := "ytlijgcmcpehplaa", sum := "5cd51a523765ca6982979b9182c25b3f77f358f0c14510a5347c22208f9d71a1", func := "downhaul/downhaullaw11.IpsixAgain", spec := "ipsixAgain", unfollowed := true, recurses := true, apart := false, narrowed := true }
def IpsixAgainUptoSaid : Prop := ipsixAgainUptoRow.holds Try.pinned (OpenSpec.upto ipsixAgainSpec)

end Rows
end Go.Proofs.Ytlijgcmcpehplaa
