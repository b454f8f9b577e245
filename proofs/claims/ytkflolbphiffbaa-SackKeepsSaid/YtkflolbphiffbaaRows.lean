/-
  No cell of these rows narrows 'for every input' (looked for: loops, veiled, ifaces, maps, wideKeys, modest, calm, conditions, laid).
  DERIVED. THE GIVEN ROWS OF THIS SEAT. 3 by the template 'for every input the law returns true; each argument reads behind the call as it read before'; 0 by the template 'total and deterministic' (their statements: YtkflolbphiffbaaTotals.lean).
  GIVEN WITH THE SEED: the statements are not yours to turn. If you find one false, say at which input.
  Laid BY PROGRAM, IN A SANDBOX (cutbox-rows.mjs): the forced cells as the released guide's own fill.sh prints them over the translation f9ba136eef004924… (all of the seat's roots in one cut). By AI agents, Wed Nov 11 2026. No macro, syntax, notation, axiom, sorry.
-/
import Derived.Test.YtkflolbphiffbaaChecked
import GoSem.Claim
import GoSem.ClaimJoined
import GoSem.ClaimMapViews
import Derived.JoinedTies
import Derived.KernelRfl
namespace Go.Proofs.Ytkflolbphiffbaa
/- THE CELL 'sum', in the pinned program and in every row, IS THE sha256 OF THE DUMP (.gsa) THAT YtkflolbphiffbaaProg.lean LOADS. Nothing in Lean hashes anything: it is a label: what it is worth is what the hold of that sum in a sandbox is worth. -/
noncomputable def Try.pinned : Pinned := { name := "ytkflolbphiffbaa", sum := "f9ba136eef0049248489a66b95e431a4f4d116ea5169d421a3b93e8cb24f7bec", checked := Try.checked }
namespace Rows
def none {H : Type} : Left H := { results := [], args := [] }

/-- 'downhaullaw24.SackHoles': WHATEVER THE INPUT: true; the input reads as it did. -/
def sackHolesSpec : ChangeSpec := { name := "sackHoles", fn := fun _ => fun
  | [d1, d2, d3] => { results := [.lit (.bool true)], args := [d1, d2, d3] }
  | _ => none }
def sackHolesRow : OpenClaim := { program := "ytkflolbphiffbaa", sum := "f9ba136eef0049248489a66b95e431a4f4d116ea5169d421a3b93e8cb24f7bec", func := "downhaul/downhaullaw24.SackHoles", spec := "sackHoles", inPlace := ["slices.overlaps[downhaul/sack.run]"], unfollowed := true, recurses := true, apart := false }
def SackHolesSaid : Prop := sackHolesRow.holds Try.pinned (OpenSpec.ofChange sackHolesSpec)

/-- ITS FALSE NEIGHBOUR: 'it returns false'. Refute it at one input. -/
def sackHolesWrong : ChangeSpec := { name := "sackHoles", fn := fun _ => fun
  | [d1, d2, d3] => { results := [.lit (.bool false)], args := [d1, d2, d3] }
  | _ => none }
def SackHolesWrongFalsely : Prop := sackHolesRow.holds Try.pinned (OpenSpec.ofChange sackHolesWrong)

/-- 'downhaullaw24.SackKeeps': WHATEVER THE INPUT: true; the input reads as it did. -/
def sackKeepsSpec : ChangeSpec := { name := "sackKeeps", fn := fun _ => fun
  | [d1, d2] => { results := [.lit (.bool true)], args := [d1, d2] }
  | _ => none }
def sackKeepsRow : OpenClaim := { program := "ytkflolbphiffbaa", sum := "f9ba136eef0049248489a66b95e431a4f4d116ea5169d421a3b93e8cb24f7bec", func := "downhaul/downhaullaw24.SackKeeps", spec := "sackKeeps", inPlace := ["slices.overlaps[downhaul/sack.run]"], unfollowed := true, recurses := true, apart := false }
def SackKeepsSaid : Prop := sackKeepsRow.holds Try.pinned (OpenSpec.ofChange sackKeepsSpec)

/-- ITS FALSE NEIGHBOUR: 'it returns false'. Refute it at one input. -/
def sackKeepsWrong : ChangeSpec := { name := "sackKeeps", fn := fun _ => fun
  | [d1, d2] => { results := [.lit (.bool false)], args := [d1, d2] }
  | _ => none }
def SackKeepsWrongFalsely : Prop := sackKeepsRow.holds Try.pinned (OpenSpec.ofChange sackKeepsWrong)

/-- 'downhaullaw24.SackNobody': WHATEVER THE INPUT: true; the input reads as it did. -/
def sackNobodySpec : ChangeSpec := { name := "sackNobody", fn := fun _ => fun
  | [d] => { results := [.lit (.bool true)], args := [d] }
  | _ => none }
def sackNobodyRow : OpenClaim := { program := "ytkflolbphiffbaa", sum := "f9ba136eef0049248489a66b95e431a4f4d116ea5169d421a3b93e8cb24f7bec", func := "downhaul/downhaullaw24.SackNobody", spec := "sackNobody", inPlace := ["slices.overlaps[downhaul/sack.run]"], unfollowed := true, recurses := true, apart := false }
def SackNobodySaid : Prop := sackNobodyRow.holds Try.pinned (OpenSpec.ofChange sackNobodySpec)

/-- ITS FALSE NEIGHBOUR: 'it returns false'. Refute it at one input. -/
def sackNobodyWrong : ChangeSpec := { name := "sackNobody", fn := fun _ => fun
  | [d] => { results := [.lit (.bool false)], args := [d] }
  | _ => none }
def SackNobodyWrongFalsely : Prop := sackNobodyRow.holds Try.pinned (OpenSpec.ofChange sackNobodyWrong)

/- THE SECOND FORM. 'bulk': how many values and letters a reading holds, each counted each time it is reached (what is shared counts as often as it is met; a slice's spare places count too). A statement '..UptoSaid' is the law's where the arguments, and the package variables that the reading takes, are together of bulk at most 1048576: NARROWER than '..Said'. Prove '..Said' where nothing that the law and all that it calls make is longer than what came in: it says more and counts as full. Else prove '..UptoSaid'. A law counts once. -/
mutual
def uptoBulk {H : Type} : DataW H → Nat
  | .lit (.string bytes) => bytes.length + 1
  | .lit _ => 1
  | .nil => 1
  | .ptr d => uptoBulk d + 1
  | .slice elems spare => uptoBulkAll elems + uptoBulkAll spare + 1
  | .agg parts => uptoBulkAll parts + 1
  | .iface _ d => uptoBulk d + 1
  | .map entries => uptoBulkEntries entries + 1
  | .held _ => 1
def uptoBulkAll {H : Type} : List (DataW H) → Nat
  | [] => 0
  | d :: r => uptoBulk d + uptoBulkAll r
def uptoBulkEntries {H : Type} : List (Lit × DataW H) → Nat
  | [] => 0
  | x :: r => uptoBulkEntry x + uptoBulkEntries r
def uptoBulkEntry {H : Type} : Lit × DataW H → Nat
  | (.string bytes, d) => bytes.length + uptoBulk d + 1
  | (_, d) => uptoBulk d + 1
 end
def uptoSmall : (H : Type) → List (DataW H) → Bool := fun _ ds => decide (uptoBulkAll ds ≤ 1048576)
def OpenSpec.upto (s : _root_.Go.ChangeSpec) : _root_.Go.OpenSpec := { _root_.Go.OpenSpec.ofChange s with cond := some uptoSmall }

/-- 'downhaullaw24.SackHoles', WHERE WHAT IT READS IS OF BULK AT MOST 1048576: true; the input reads as it did. -/
def sackHolesUptoRow : OpenClaim := { program := "ytkflolbphiffbaa", sum := "f9ba136eef0049248489a66b95e431a4f4d116ea5169d421a3b93e8cb24f7bec", func := "downhaul/downhaullaw24.SackHoles", spec := "sackHoles", inPlace := ["slices.overlaps[downhaul/sack.run]"], unfollowed := true, recurses := true, apart := false, narrowed := true }
def SackHolesUptoSaid : Prop := sackHolesUptoRow.holds Try.pinned (OpenSpec.upto sackHolesSpec)

/-- 'downhaullaw24.SackKeeps', WHERE WHAT IT READS IS OF BULK AT MOST 1048576: true; the input reads as it did. -/
def sackKeepsUptoRow : OpenClaim := { program := "ytkflolbphiffbaa", sum := "f9ba136eef0049248489a66b95e431a4f4d116ea5169d421a3b93e8cb24f7bec", func := "downhaul/downhaullaw24.SackKeeps", spec := "sackKeeps", inPlace := ["slices.overlaps[downhaul/sack.run]"], unfollowed := true, recurses := true, apart := false, narrowed := true }
def SackKeepsUptoSaid : Prop := sackKeepsUptoRow.holds Try.pinned (OpenSpec.upto sackKeepsSpec)

/-- 'downhaullaw24.SackNobody', WHERE WHAT IT READS IS OF BULK AT MOST 1048576: true; the input reads as it did. -/
def sackNobodyUptoRow : OpenClaim := { program := "ytkflolbphiffbaa", sum := "f9ba136eef0049248489a66b95e431a4f4d116ea5169d421a3b93e8cb24f7bec", func := "downhaul/downhaullaw24.SackNobody", spec := "sackNobody", inPlace := ["slices.overlaps[downhaul/sack.run]"], unfollowed := true, recurses := true, apart := false, narrowed := true }
def SackNobodyUptoSaid : Prop := sackNobodyUptoRow.holds Try.pinned (OpenSpec.upto sackNobodySpec)

end Rows
end Go.Proofs.Ytkflolbphiffbaa
