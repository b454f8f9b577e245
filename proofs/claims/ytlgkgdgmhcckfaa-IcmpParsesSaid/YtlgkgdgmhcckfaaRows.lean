/-
  No cell of these rows narrows 'for every input' (looked for: loops, veiled, ifaces, maps, wideKeys, modest, calm, conditions, laid).
  DERIVED. THE GIVEN ROWS OF THIS SEAT. 5 by the template 'for every input the law returns true; each argument reads behind the call as it read before'; 0 by the template 'total and deterministic' (their statements: YtlgkgdgmhcckfaaTotals.lean).
  GIVEN WITH THE SEED: the statements are not yours to turn. If you find one false, say at which input.
  Laid BY PROGRAM, IN A SANDBOX (cutbox-rows.mjs): the forced cells as the released guide's own fill.sh prints them over the translation aefefcf118f59e7d… (all of the seat's roots in one cut). By AI agents, Wed Nov 11 2026. No macro, syntax, notation, axiom, sorry.
-/
import Derived.Test.YtlgkgdgmhcckfaaChecked
import GoSem.Claim
import GoSem.ClaimJoined
import GoSem.ClaimMapViews
import Derived.JoinedTies
import Derived.KernelRfl
namespace Go.Proofs.Ytlgkgdgmhcckfaa
/- THE CELL 'sum', in the pinned program and in every row, IS THE sha256 OF THE DUMP (.gsa) THAT YtlgkgdgmhcckfaaProg.lean LOADS. Nothing in Lean hashes anything: it is a label: what it is worth is what the hold of that sum in a sandbox is worth. -/
noncomputable def Try.pinned : Pinned := { name := "ytlgkgdgmhcckfaa", sum := "aefefcf118f59e7d636e7625a6c7a2e19f600cf3cc8c186e54feb4f3a2fe8fc7", checked := Try.checked }
namespace Rows
def none {H : Type} : Left H := { results := [], args := [] }

/-- 'downhaullaw14.IcmpLays': WHATEVER THE INPUT: true; the input reads as it did. -/
def icmpLaysSpec : ChangeSpec := { name := "icmpLays", fn := fun _ => fun
  | [d1, d2, d3] => { results := [.lit (.bool true)], args := [d1, d2, d3] }
  | _ => none }
def icmpLaysRow : OpenClaim := { program := "ytlgkgdgmhcckfaa", sum := "aefefcf118f59e7d636e7625a6c7a2e19f600cf3cc8c186e54feb4f3a2fe8fc7", func := "downhaul/downhaullaw14.IcmpLays", spec := "icmpLays", apart := false }
def IcmpLaysSaid : Prop := icmpLaysRow.holds Try.pinned (OpenSpec.ofChange icmpLaysSpec)

/-- ITS FALSE NEIGHBOUR: 'it returns false'. Refute it at one input. -/
def icmpLaysWrong : ChangeSpec := { name := "icmpLays", fn := fun _ => fun
  | [d1, d2, d3] => { results := [.lit (.bool false)], args := [d1, d2, d3] }
  | _ => none }
def IcmpLaysWrongFalsely : Prop := icmpLaysRow.holds Try.pinned (OpenSpec.ofChange icmpLaysWrong)

/-- 'downhaullaw14.IcmpParses': WHATEVER THE INPUT: true; the input reads as it did. -/
def icmpParsesSpec : ChangeSpec := { name := "icmpParses", fn := fun _ => fun
  | [d1, d2] => { results := [.lit (.bool true)], args := [d1, d2] }
  | _ => none }
def icmpParsesRow : OpenClaim := { program := "ytlgkgdgmhcckfaa", sum := "aefefcf118f59e7d636e7625a6c7a2e19f600cf3cc8c186e54feb4f3a2fe8fc7", func := "downhaul/downhaullaw14.IcmpParses", spec := "icmpParses", apart := false }
def IcmpParsesSaid : Prop := icmpParsesRow.holds Try.pinned (OpenSpec.ofChange icmpParsesSpec)

/-- ITS FALSE NEIGHBOUR: 'it returns false'. Refute it at one input. -/
def icmpParsesWrong : ChangeSpec := { name := "icmpParses", fn := fun _ => fun
  | [d1, d2] => { results := [.lit (.bool false)], args := [d1, d2] }
  | _ => none }
def IcmpParsesWrongFalsely : Prop := icmpParsesRow.holds Try.pinned (OpenSpec.ofChange icmpParsesWrong)

/-- 'downhaullaw14.IcmpBack': WHATEVER THE INPUT: true; the input reads as it did. -/
def icmpBackSpec : ChangeSpec := { name := "icmpBack", fn := fun _ => fun
  | [d1, d2] => { results := [.lit (.bool true)], args := [d1, d2] }
  | _ => none }
def icmpBackRow : OpenClaim := { program := "ytlgkgdgmhcckfaa", sum := "aefefcf118f59e7d636e7625a6c7a2e19f600cf3cc8c186e54feb4f3a2fe8fc7", func := "downhaul/downhaullaw14.IcmpBack", spec := "icmpBack", apart := false }
def IcmpBackSaid : Prop := icmpBackRow.holds Try.pinned (OpenSpec.ofChange icmpBackSpec)

/-- ITS FALSE NEIGHBOUR: 'it returns false'. Refute it at one input. -/
def icmpBackWrong : ChangeSpec := { name := "icmpBack", fn := fun _ => fun
  | [d1, d2] => { results := [.lit (.bool false)], args := [d1, d2] }
  | _ => none }
def IcmpBackWrongFalsely : Prop := icmpBackRow.holds Try.pinned (OpenSpec.ofChange icmpBackWrong)

/-- 'downhaullaw14.IcmpAgain': WHATEVER THE INPUT: true; the input reads as it did. -/
def icmpAgainSpec : ChangeSpec := { name := "icmpAgain", fn := fun _ => fun
  | [d1, d2] => { results := [.lit (.bool true)], args := [d1, d2] }
  | _ => none }
def icmpAgainRow : OpenClaim := { program := "ytlgkgdgmhcckfaa", sum := "aefefcf118f59e7d636e7625a6c7a2e19f600cf3cc8c186e54feb4f3a2fe8fc7", func := "downhaul/downhaullaw14.IcmpAgain", spec := "icmpAgain", apart := false }
def IcmpAgainSaid : Prop := icmpAgainRow.holds Try.pinned (OpenSpec.ofChange icmpAgainSpec)

/-- ITS FALSE NEIGHBOUR: 'it returns false'. Refute it at one input. -/
def icmpAgainWrong : ChangeSpec := { name := "icmpAgain", fn := fun _ => fun
  | [d1, d2] => { results := [.lit (.bool false)], args := [d1, d2] }
  | _ => none }
def IcmpAgainWrongFalsely : Prop := icmpAgainRow.holds Try.pinned (OpenSpec.ofChange icmpAgainWrong)

/-- 'downhaullaw14.IcmpTurns': WHATEVER THE INPUT: true; the input reads as it did. -/
def icmpTurnsSpec : ChangeSpec := { name := "icmpTurns", fn := fun _ => fun
  | [d1, d2, d3] => { results := [.lit (.bool true)], args := [d1, d2, d3] }
  | _ => none }
def icmpTurnsRow : OpenClaim := { program := "ytlgkgdgmhcckfaa", sum := "aefefcf118f59e7d636e7625a6c7a2e19f600cf3cc8c186e54feb4f3a2fe8fc7", func := "downhaul/downhaullaw14.IcmpTurns", spec := "icmpTurns", apart := false }
def IcmpTurnsSaid : Prop := icmpTurnsRow.holds Try.pinned (OpenSpec.ofChange icmpTurnsSpec)

/-- ITS FALSE NEIGHBOUR: 'it returns false'. Refute it at one input. -/
def icmpTurnsWrong : ChangeSpec := { name := "icmpTurns", fn := fun _ => fun
  | [d1, d2, d3] => { results := [.lit (.bool false)], args := [d1, d2, d3] }
  | _ => none }
def IcmpTurnsWrongFalsely : Prop := icmpTurnsRow.holds Try.pinned (OpenSpec.ofChange icmpTurnsWrong)

/- THE SECOND FORM. 'bulk': how many values and letters a reading holds, each counted each time it is reached (what is shared counts as often as it is met; a slice's spare places count too). A statement '..UptoSaid' is the law's where the arguments, and the package variables that the reading takes, are together of bulk at most 1048576: NARROWER than '..Said'. Prove '..Said' where nothing that the law and all that it calls make is longer than what came in: it says more and counts as full. Else prove '..UptoSaid'. A law counts once. -/
mutual
def uptoBulk {H : Type} : DataW H → Nat
  | .lit (.string bytes) => bytes.length + 1
  | .lit _ => 1
  | .nil => 1
  | .ptr d => uptoBulk d + 1
  | .slice elems spare => uptoBulkAll elems + uptoBulkAll spare + 1
  | .agg parts => uptoBulkAll parts + 1
  | .iface _ d => uptoBulk d + 1
  | .map entries => uptoBulkEntries entries + 1
  | .held _ => 1
def uptoBulkAll {H : Type} : List (DataW H) → Nat
  | [] => 0
  | d :: r => uptoBulk d + uptoBulkAll r
def uptoBulkEntries {H : Type} : List (Lit × DataW H) → Nat
  | [] => 0
  | x :: r => uptoBulkEntry x + uptoBulkEntries r
def uptoBulkEntry {H : Type} : Lit × DataW H → Nat
  | (.string bytes, d) => bytes.length + uptoBulk d + 1
  | (_, d) => uptoBulk d + 1
 end
def uptoSmall : (H : Type) → List (DataW H) → Bool := fun _ ds => decide (uptoBulkAll ds ≤ 1048576)
def OpenSpec.upto (s : _root_.Go.ChangeSpec) : _root_.Go.OpenSpec := { _root_.Go.OpenSpec.ofChange s with cond := some uptoSmall }

/-- 'downhaullaw14.IcmpLays', WHERE WHAT IT READS IS OF BULK AT MOST 1048576: true; the input reads as it did. -/
def icmpLaysUptoRow : OpenClaim := { program := "ytlgkgdgmhcckfaa", sum := "aefefcf118f59e7d636e7625a6c7a2e19f600cf3cc8c186e54feb4f3a2fe8fc7", func := "downhaul/downhaullaw14.IcmpLays", spec := "icmpLays", apart := false, narrowed := true }
def IcmpLaysUptoSaid : Prop := icmpLaysUptoRow.holds Try.pinned (OpenSpec.upto icmpLaysSpec)

/-- 'downhaullaw14.IcmpParses', WHERE WHAT IT READS IS OF BULK AT MOST 1048576: true; the input reads as it did. -/
def icmpParsesUptoRow : OpenClaim := { program := "ytlgkgdgmhcckfaa", sum := "aefefcf118f59e7d636e7625a6c7a2e19f600cf3cc8c186e54feb4f3a2fe8fc7", func := "downhaul/downhaullaw14.IcmpParses", spec := "icmpParses", apart := false, narrowed := true }
def IcmpParsesUptoSaid : Prop := icmpParsesUptoRow.holds Try.pinned (OpenSpec.upto icmpParsesSpec)

/-- 'downhaullaw14.IcmpBack', WHERE WHAT IT READS IS OF BULK AT MOST 1048576: true; the input reads as it did. -/
def icmpBackUptoRow : OpenClaim := { program := "ytlgkgdgmhcckfaa", sum := "aefefcf118f59e7d636e7625a6c7a2e19f600cf3cc8c186e54feb4f3a2fe8fc7", func := "downhaul/downhaullaw14.IcmpBack", spec := "icmpBack", apart := false, narrowed := true }
def IcmpBackUptoSaid : Prop := icmpBackUptoRow.holds Try.pinned (OpenSpec.upto icmpBackSpec)

/-- 'downhaullaw14.IcmpAgain', WHERE WHAT IT READS IS OF BULK AT MOST 1048576: true; the input reads as it did. -/
def icmpAgainUptoRow : OpenClaim := { program := "ytlgkgdgmhcckfaa", sum := "aefefcf118f59e7d636e7625a6c7a2e19f600cf3cc8c186e54feb4f3a2fe8fc7", func := "downhaul/downhaullaw14.IcmpAgain", spec := "icmpAgain", apart := false, narrowed := true }
def IcmpAgainUptoSaid : Prop := icmpAgainUptoRow.holds Try.pinned (OpenSpec.upto icmpAgainSpec)

/-- 'downhaullaw14.IcmpTurns', WHERE WHAT IT READS IS OF BULK AT MOST 1048576: true; the input reads as it did. -/
def icmpTurnsUptoRow : OpenClaim := { program := "ytlgkgdgmhcckfaa", sum := "aefefcf118f59e7d636e7625a6c7a2e19f600cf3cc8c186e54feb4f3a2fe8fc7", func := "downhaul/downhaullaw14.IcmpTurns", spec := "icmpTurns", apart := false, narrowed := true }
def IcmpTurnsUptoSaid : Prop := icmpTurnsUptoRow.holds Try.pinned (OpenSpec.upto icmpTurnsSpec)

end Rows
end Go.Proofs.Ytlgkgdgmhcckfaa
