/-
  No cell of these rows narrows 'for every input' (looked for: loops, veiled, ifaces, maps, wideKeys, modest, calm, conditions, laid).
  DERIVED. THE GIVEN ROWS OF THIS SEAT. 5 by the template 'for every input the law returns true; each argument reads behind the call as it read before'; 0 by the template 'total and deterministic' (their statements: YtechpojcbhnfgaaTotals.lean).
  GIVEN WITH THE SEED: the statements are not yours to turn. If you find one false, say at which input.
  Laid BY PROGRAM, IN A SANDBOX (cutbox-rows.mjs): the forced cells as the released guide's own fill.sh prints them over the translation f3295db2d527100f… (all of the seat's roots in one cut). By AI agents, Wed Nov 11 2026. No macro, syntax, notation, axiom, sorry.
-/
import Derived.Test.YtechpojcbhnfgaaChecked
import GoSem.Claim
import GoSem.ClaimJoined
import GoSem.ClaimMapViews
import Derived.JoinedTies
import Derived.KernelRfl
namespace Go.Proofs.Ytechpojcbhnfgaa
/- THE CELL 'sum', in the pinned program and in every row, IS THE sha256 OF THE DUMP (.gsa) THAT YtechpojcbhnfgaaProg.lean LOADS. Nothing in Lean hashes anything: it is a label: what it is worth is what the hold of that sum in a sandbox is worth. -/
noncomputable def Try.pinned : Pinned := { name := "ytechpojcbhnfgaa", sum := "f3295db2d527100f186412ebfb611a99b1c2073547fae82c2bb143664a4f1a53", checked := Try.checked }
namespace Rows
def none {H : Type} : Left H := { results := [], args := [] }

/-- 'downhaullaw02.OctetsPuts': WHATEVER THE INPUT: true; the input reads as it did. -/
def octetsPutsSpec : ChangeSpec := { name := "octetsPuts", fn := fun _ => fun
  | [d1, d2, d3] => { results := [.lit (.bool true)], args := [d1, d2, d3] }
  | _ => none }
def octetsPutsRow : OpenClaim := { program := "ytechpojcbhnfgaa", sum := "f3295db2d527100f186412ebfb611a99b1c2073547fae82c2bb143664a4f1a53", func := "downhaul/downhaullaw02.OctetsPuts", spec := "octetsPuts", unfollowed := true, recurses := true, apart := false }
def OctetsPutsSaid : Prop := octetsPutsRow.holds Try.pinned (OpenSpec.ofChange octetsPutsSpec)

/-- ITS FALSE NEIGHBOUR: 'it returns false'. Refute it at one input. -/
def octetsPutsWrong : ChangeSpec := { name := "octetsPuts", fn := fun _ => fun
  | [d1, d2, d3] => { results := [.lit (.bool false)], args := [d1, d2, d3] }
  | _ => none }
def OctetsPutsWrongFalsely : Prop := octetsPutsRow.holds Try.pinned (OpenSpec.ofChange octetsPutsWrong)

/-- 'downhaullaw02.OctetsBack': WHATEVER THE INPUT: true; the input reads as it did. -/
def octetsBackSpec : ChangeSpec := { name := "octetsBack", fn := fun _ => fun
  | [d1, d2, d3] => { results := [.lit (.bool true)], args := [d1, d2, d3] }
  | _ => none }
def octetsBackRow : OpenClaim := { program := "ytechpojcbhnfgaa", sum := "f3295db2d527100f186412ebfb611a99b1c2073547fae82c2bb143664a4f1a53", func := "downhaul/downhaullaw02.OctetsBack", spec := "octetsBack", unfollowed := true, recurses := true, apart := false }
def OctetsBackSaid : Prop := octetsBackRow.holds Try.pinned (OpenSpec.ofChange octetsBackSpec)

/-- ITS FALSE NEIGHBOUR: 'it returns false'. Refute it at one input. -/
def octetsBackWrong : ChangeSpec := { name := "octetsBack", fn := fun _ => fun
  | [d1, d2, d3] => { results := [.lit (.bool false)], args := [d1, d2, d3] }
  | _ => none }
def OctetsBackWrongFalsely : Prop := octetsBackRow.holds Try.pinned (OpenSpec.ofChange octetsBackWrong)

/-- 'downhaullaw02.OctetsTries': WHATEVER THE INPUT: true; the input reads as it did. -/
def octetsTriesSpec : ChangeSpec := { name := "octetsTries", fn := fun _ => fun
  | [d1, d2] => { results := [.lit (.bool true)], args := [d1, d2] }
  | _ => none }
def octetsTriesRow : OpenClaim := { program := "ytechpojcbhnfgaa", sum := "f3295db2d527100f186412ebfb611a99b1c2073547fae82c2bb143664a4f1a53", func := "downhaul/downhaullaw02.OctetsTries", spec := "octetsTries", unfollowed := true, recurses := true, apart := false }
def OctetsTriesSaid : Prop := octetsTriesRow.holds Try.pinned (OpenSpec.ofChange octetsTriesSpec)

/-- ITS FALSE NEIGHBOUR: 'it returns false'. Refute it at one input. -/
def octetsTriesWrong : ChangeSpec := { name := "octetsTries", fn := fun _ => fun
  | [d1, d2] => { results := [.lit (.bool false)], args := [d1, d2] }
  | _ => none }
def OctetsTriesWrongFalsely : Prop := octetsTriesRow.holds Try.pinned (OpenSpec.ofChange octetsTriesWrong)

/-- 'downhaullaw02.OctetsHexBack': WHATEVER THE INPUT: true; the input reads as it did. -/
def octetsHexBackSpec : ChangeSpec := { name := "octetsHexBack", fn := fun _ => fun
  | [d1, d2] => { results := [.lit (.bool true)], args := [d1, d2] }
  | _ => none }
def octetsHexBackRow : OpenClaim := { program := "ytechpojcbhnfgaa", sum := "f3295db2d527100f186412ebfb611a99b1c2073547fae82c2bb143664a4f1a53", func := "downhaul/downhaullaw02.OctetsHexBack", spec := "octetsHexBack", unfollowed := true, recurses := true, apart := false }
def OctetsHexBackSaid : Prop := octetsHexBackRow.holds Try.pinned (OpenSpec.ofChange octetsHexBackSpec)

/-- ITS FALSE NEIGHBOUR: 'it returns false'. Refute it at one input. -/
def octetsHexBackWrong : ChangeSpec := { name := "octetsHexBack", fn := fun _ => fun
  | [d1, d2] => { results := [.lit (.bool false)], args := [d1, d2] }
  | _ => none }
def OctetsHexBackWrongFalsely : Prop := octetsHexBackRow.holds Try.pinned (OpenSpec.ofChange octetsHexBackWrong)

/-- 'downhaullaw02.OctetsHex': WHATEVER THE INPUT: true; the input reads as it did. -/
def octetsHexSpec : ChangeSpec := { name := "octetsHex", fn := fun _ => fun
  | [d1, d2, d3] => { results := [.lit (.bool true)], args := [d1, d2, d3] }
  | _ => none }
def octetsHexRow : OpenClaim := { program := "ytechpojcbhnfgaa", sum := "f3295db2d527100f186412ebfb611a99b1c2073547fae82c2bb143664a4f1a53", func := "downhaul/downhaullaw02.OctetsHex", spec := "octetsHex", unfollowed := true, recurses := true, apart := false }
def OctetsHexSaid : Prop := octetsHexRow.holds Try.pinned (OpenSpec.ofChange octetsHexSpec)

/-- ITS FALSE NEIGHBOUR: 'it returns false'. Refute it at one input. -/
def octetsHexWrong : ChangeSpec := { name := "octetsHex", fn := fun _ => fun
  | [d1, d2, d3] => { results := [.lit (.bool false)], args := [d1, d2, d3] }
  | _ => none }
def OctetsHexWrongFalsely : Prop := octetsHexRow.holds Try.pinned (OpenSpec.ofChange octetsHexWrong)

/- THE SECOND FORM. 'bulk': how many values and letters a reading holds, each counted each time it is reached (what is shared counts as often as it is met; a slice's spare places count too). A statement '..UptoSaid' is the law's where the arguments, and the package variables that the reading takes, are together of bulk at most 1048576: NARROWER than '..Said'. Prove '..Said' where nothing that the law and all that it calls make is longer than what came in: it says more and counts as full. Else prove '..UptoSaid'. A law counts once. -/
mutual
def uptoBulk {H : Type} : DataW H → Nat
  | .lit (.string bytes) => bytes.length + 1
  | .lit _ => 1
  | .nil => 1
  | .ptr d => uptoBulk d + 1
  | .slice elems spare => uptoBulkAll elems + uptoBulkAll spare + 1
  | .agg parts => uptoBulkAll parts + 1
  | .iface _ d => uptoBulk d + 1
  | .map entries => uptoBulkEntries entries + 1
  | .held _ => 1
def uptoBulkAll {H : Type} : List (DataW H) → Nat
  | [] => 0
  | d :: r => uptoBulk d + uptoBulkAll r
def uptoBulkEntries {H : Type} : List (Lit × DataW H) → Nat
  | [] => 0
  | x :: r => uptoBulkEntry x + uptoBulkEntries r
def uptoBulkEntry {H : Type} : Lit × DataW H → Nat
  | (.string bytes, d) => bytes.length + uptoBulk d + 1
  | (_, d) => uptoBulk d + 1
 end
def uptoSmall : (H : Type) → List (DataW H) → Bool := fun _ ds => decide (uptoBulkAll ds ≤ 1048576)
def OpenSpec.upto (s : _root_.Go.ChangeSpec) : _root_.Go.OpenSpec := { _root_.Go.OpenSpec.ofChange s with cond := some uptoSmall }

/-- 'downhaullaw02.OctetsPuts', WHERE WHAT IT READS IS OF BULK AT MOST 1048576: true; the input reads as it did. -/
def octetsPutsUptoRow : OpenClaim := { program := "ytechpojcbhnfgaa", sum := "f3295db2d527100f186412ebfb611a99b1c2073547fae82c2bb143664a4f1a53", func := "downhaul/downhaullaw02.OctetsPuts", spec := "octetsPuts", unfollowed := true, recurses := true, apart := false, narrowed := true }
def OctetsPutsUptoSaid : Prop := octetsPutsUptoRow.holds Try.pinned (OpenSpec.upto octetsPutsSpec)

/-- 'downhaullaw02.OctetsBack', WHERE WHAT IT READS IS OF BULK AT MOST 1048576: true; the input reads as it did. -/
def octetsBackUptoRow : OpenClaim := { program := "ytechpojcbhnfgaa", sum := "f3295db2d527100f186412ebfb611a99b1c2073547fae82c2bb143664a4f1a53", func := "downhaul/downhaullaw02.OctetsBack", spec := "octetsBack", unfollowed := true, recurses := true, apart := false, narrowed := true }
def OctetsBackUptoSaid : Prop := octetsBackUptoRow.holds Try.pinned (OpenSpec.upto octetsBackSpec)

/-- 'downhaullaw02.OctetsTries', WHERE WHAT IT READS IS OF BULK AT MOST 1048576: true; the input reads as it did. -/
def octetsTriesUptoRow : OpenClaim := { program := "ytechpojcbhnfgaa", sum := "f3295db2d527100f186412ebfb611a99b1c2073547fae82c2bb143664a4f1a53", func := "downhaul/downhaullaw02.OctetsTries", spec := "octetsTries", unfollowed := true, recurses := true, apart := false, narrowed := true }
def OctetsTriesUptoSaid : Prop := octetsTriesUptoRow.holds Try.pinned (OpenSpec.upto octetsTriesSpec)

/-- 'downhaullaw02.OctetsHexBack', WHERE WHAT IT READS IS OF BULK AT MOST 1048576: true; the input reads as it did. -/
def octetsHexBackUptoRow : OpenClaim := { program := "ytechpojcbhnfgaa", sum := "f3295db2d527100f186412ebfb611a99b1c2073547fae82c2bb143664a4f1a53", func := "downhaul/downhaullaw02.OctetsHexBack", spec := "octetsHexBack", unfollowed := true, recurses := true, apart := false, narrowed := true }
def OctetsHexBackUptoSaid : Prop := octetsHexBackUptoRow.holds Try.pinned (OpenSpec.upto octetsHexBackSpec)

/-- 'downhaullaw02.OctetsHex', WHERE WHAT IT READS IS OF BULK AT MOST 1048576: true; the input reads as it did. -/
def octetsHexUptoRow : OpenClaim := { program := "ytechpojcbhnfgaa", sum := "f3295db2d527100f186412ebfb611a99b1c2073547fae82c2bb143664a4f1a53", func := "downhaul/downhaullaw02.OctetsHex", spec := "octetsHex", unfollowed := true, recurses := true, apart := false, narrowed := true }
def OctetsHexUptoSaid : Prop := octetsHexUptoRow.holds Try.pinned (OpenSpec.upto octetsHexSpec)

end Rows
end Go.Proofs.Ytechpojcbhnfgaa
