/-
  No cell of these rows narrows 'for every input' (looked for: loops, veiled, ifaces, maps, wideKeys, modest, calm, conditions, laid).
  DERIVED. THE GIVEN ROWS OF THIS SEAT. 4 by the template 'for every input the law returns true; each argument reads behind the call as it read before'; 0 by the template 'total and deterministic' (their statements: YtblkfpipmdfmkaaTotals.lean).
  GIVEN WITH THE SEED: the statements are not yours to turn. If you find one false, say at which input.
  Laid BY PROGRAM, IN A SANDBOX (cutbox-rows.mjs): the forced cells as the released guide's own fill.sh prints them over the translation c5d04a8930750f18… (all of the seat's roots in one cut). By AI agents, Wed Nov 11 2026. No macro, syntax, notation, axiom, sorry.
-/
import Derived.Test.YtblkfpipmdfmkaaChecked
import GoSem.Claim
import GoSem.ClaimJoined
import GoSem.ClaimMapViews
import Derived.JoinedTies
import Derived.KernelRfl
namespace Go.Proofs.Ytblkfpipmdfmkaa
/- THE CELL 'sum', in the pinned program and in every row, IS THE sha256 OF THE DUMP (.gsa) THAT YtblkfpipmdfmkaaProg.lean LOADS. Nothing in Lean hashes anything: it is a label: what it is worth is what the hold of that sum in a sandbox is worth. -/
noncomputable def Try.pinned : Pinned := { name := "ytblkfpipmdfmkaa", sum := "c5d04a8930750f1835c9de925869357dc2232e2c44f9ac22c56f1d3ec0288215", checked := Try.checked }
namespace Rows
def none {H : Type} : Left H := { results := [], args := [] }

/-- 'downhaullaw26.RbufKept': WHATEVER THE INPUT: true; the input reads as it did. -/
def rbufKeptSpec : ChangeSpec := { name := "rbufKept", fn := fun _ => fun
  | [d1, d2, d3] => { results := [.lit (.bool true)], args := [d1, d2, d3] }
  | _ => none }
def rbufKeptRow : OpenClaim := { program := "ytblkfpipmdfmkaa", sum := "c5d04a8930750f1835c9de925869357dc2232e2c44f9ac22c56f1d3ec0288215", func := "downhaul/downhaullaw26.RbufKept", spec := "rbufKept", inPlace := ["slices.overlaps[downhaul/sack.run]"], unfollowed := true, recurses := true, apart := false }
def RbufKeptSaid : Prop := rbufKeptRow.holds Try.pinned (OpenSpec.ofChange rbufKeptSpec)

/-- ITS FALSE NEIGHBOUR: 'it returns false'. Refute it at one input. -/
def rbufKeptWrong : ChangeSpec := { name := "rbufKept", fn := fun _ => fun
  | [d1, d2, d3] => { results := [.lit (.bool false)], args := [d1, d2, d3] }
  | _ => none }
def RbufKeptWrongFalsely : Prop := rbufKeptRow.holds Try.pinned (OpenSpec.ofChange rbufKeptWrong)

/-- 'downhaullaw26.RbufPlays': WHATEVER THE INPUT: true; the input reads as it did. -/
def rbufPlaysSpec : ChangeSpec := { name := "rbufPlays", fn := fun _ => fun
  | [d1, d2, d3] => { results := [.lit (.bool true)], args := [d1, d2, d3] }
  | _ => none }
def rbufPlaysRow : OpenClaim := { program := "ytblkfpipmdfmkaa", sum := "c5d04a8930750f1835c9de925869357dc2232e2c44f9ac22c56f1d3ec0288215", func := "downhaul/downhaullaw26.RbufPlays", spec := "rbufPlays", inPlace := ["slices.overlaps[downhaul/sack.run]", "slices.overlaps[downhaul/api.Block]"], unfollowed := true, recurses := true, apart := false }
def RbufPlaysSaid : Prop := rbufPlaysRow.holds Try.pinned (OpenSpec.ofChange rbufPlaysSpec)

/-- ITS FALSE NEIGHBOUR: 'it returns false'. Refute it at one input. -/
def rbufPlaysWrong : ChangeSpec := { name := "rbufPlays", fn := fun _ => fun
  | [d1, d2, d3] => { results := [.lit (.bool false)], args := [d1, d2, d3] }
  | _ => none }
def RbufPlaysWrongFalsely : Prop := rbufPlaysRow.holds Try.pinned (OpenSpec.ofChange rbufPlaysWrong)

/-- 'downhaullaw26.RbufRooms': WHATEVER THE INPUT: true; the input reads as it did. -/
def rbufRoomsSpec : ChangeSpec := { name := "rbufRooms", fn := fun _ => fun
  | [d1, d2, d3] => { results := [.lit (.bool true)], args := [d1, d2, d3] }
  | _ => none }
def rbufRoomsRow : OpenClaim := { program := "ytblkfpipmdfmkaa", sum := "c5d04a8930750f1835c9de925869357dc2232e2c44f9ac22c56f1d3ec0288215", func := "downhaul/downhaullaw26.RbufRooms", spec := "rbufRooms", inPlace := ["slices.overlaps[downhaul/sack.run]", "slices.overlaps[downhaul/api.Block]"], unfollowed := true, recurses := true, apart := false }
def RbufRoomsSaid : Prop := rbufRoomsRow.holds Try.pinned (OpenSpec.ofChange rbufRoomsSpec)

/-- ITS FALSE NEIGHBOUR: 'it returns false'. Refute it at one input. -/
def rbufRoomsWrong : ChangeSpec := { name := "rbufRooms", fn := fun _ => fun
  | [d1, d2, d3] => { results := [.lit (.bool false)], args := [d1, d2, d3] }
  | _ => none }
def RbufRoomsWrongFalsely : Prop := rbufRoomsRow.holds Try.pinned (OpenSpec.ofChange rbufRoomsWrong)

/-- 'downhaullaw26.RbufTogether': WHATEVER THE INPUT: true; the input reads as it did. -/
def rbufTogetherSpec : ChangeSpec := { name := "rbufTogether", fn := fun _ => fun
  | [d1, d2, d3] => { results := [.lit (.bool true)], args := [d1, d2, d3] }
  | _ => none }
def rbufTogetherRow : OpenClaim := { program := "ytblkfpipmdfmkaa", sum := "c5d04a8930750f1835c9de925869357dc2232e2c44f9ac22c56f1d3ec0288215", func := "downhaul/downhaullaw26.RbufTogether", spec := "rbufTogether", inPlace := ["slices.overlaps[downhaul/sack.run]", "slices.overlaps[downhaul/api.Block]"], unfollowed := true, recurses := true, apart := false }
def RbufTogetherSaid : Prop := rbufTogetherRow.holds Try.pinned (OpenSpec.ofChange rbufTogetherSpec)

/-- ITS FALSE NEIGHBOUR: 'it returns false'. Refute it at one input. -/
def rbufTogetherWrong : ChangeSpec := { name := "rbufTogether", fn := fun _ => fun
  | [d1, d2, d3] => { results := [.lit (.bool false)], args := [d1, d2, d3] }
  | _ => none }
def RbufTogetherWrongFalsely : Prop := rbufTogetherRow.holds Try.pinned (OpenSpec.ofChange rbufTogetherWrong)

/- THE SECOND FORM. 'bulk': how many values and letters a reading holds, each counted each time it is reached (what is shared counts as often as it is met; a slice's spare places count too). A statement '..UptoSaid' is the law's where the arguments, and the package variables that the reading takes, are together of bulk at most 1048576: NARROWER than '..Said'. Prove '..Said' where nothing that the law and all that it calls make is longer than what came in: it says more and counts as full. Else prove '..UptoSaid'. A law counts once. -/
mutual
def uptoBulk {H : Type} : DataW H → Nat
  | .lit (.string bytes) => bytes.length + 1
  | .lit _ => 1
  | .nil => 1
  | .ptr d => uptoBulk d + 1
  | .slice elems spare => uptoBulkAll elems + uptoBulkAll spare + 1
  | .agg parts => uptoBulkAll parts + 1
  | .iface _ d => uptoBulk d + 1
  | .map entries => uptoBulkEntries entries + 1
  | .held _ => 1
def uptoBulkAll {H : Type} : List (DataW H) → Nat
  | [] => 0
  | d :: r => uptoBulk d + uptoBulkAll r
def uptoBulkEntries {H : Type} : List (Lit × DataW H) → Nat
  | [] => 0
  | x :: r => uptoBulkEntry x + uptoBulkEntries r
def uptoBulkEntry {H : Type} : Lit × DataW H → Nat
  | (.string bytes, d) => bytes.length + uptoBulk d + 1
  | (_, d) => uptoBulk d + 1
 end
def uptoSmall : (H : Type) → List (DataW H) → Bool := fun _ ds => decide (uptoBulkAll ds ≤ 1048576)
def OpenSpec.upto (s : _root_.Go.ChangeSpec) : _root_.Go.OpenSpec := { _root_.Go.OpenSpec.ofChange s with cond := some uptoSmall }

/-- 'downhaullaw26.RbufKept', WHERE WHAT IT READS IS OF BULK AT MOST 1048576: true; the input reads as it did. -/
def rbufKeptUptoRow : OpenClaim := { program := "ytblkfpipmdfmkaa", sum := "c5d04a8930750f1835c9de925869357dc2232e2c44f9ac22c56f1d3ec0288215", func := "downhaul/downhaullaw26.RbufKept", spec := "rbufKept", inPlace := ["slices.overlaps[downhaul/sack.run]"], unfollowed := true, recurses := true, apart := false, narrowed := true }
def RbufKeptUptoSaid : Prop := rbufKeptUptoRow.holds Try.pinned (OpenSpec.upto rbufKeptSpec)

/-- 'downhaullaw26.RbufPlays', WHERE WHAT IT READS IS OF BULK AT MOST 1048576: true; the input reads as it did. -/
def rbufPlaysUptoRow : OpenClaim := { program := "ytblkfpipmdfmkaa", sum := "c5d04a8930750f1835c9de925869357dc2232e2c44f9ac22c56f1d3ec0288215", func := "downhaul/downhaullaw26.RbufPlays", spec := "rbufPlays", inPlace := ["slices.overlaps[downhaul/sack.run]", "slices.overlaps[downhaul/api.Block]"], unfollowed := true, recurses := true, apart := false, narrowed := true }
def RbufPlaysUptoSaid : Prop := rbufPlaysUptoRow.holds Try.pinned (OpenSpec.upto rbufPlaysSpec)

/-- 'downhaullaw26.RbufRooms', WHERE WHAT IT READS IS OF BULK AT MOST 1048576: true; the input reads as it did. -/
def rbufRoomsUptoRow : OpenClaim := { program := "ytblkfpipmdfmkaa", sum := "c5d04a8930750f1835c9de925869357dc2232e2c44f9ac22c56f1d3ec0288215", func := "downhaul/downhaullaw26.RbufRooms", spec := "rbufRooms", inPlace := ["slices.overlaps[downhaul/sack.run]", "slices.overlaps[downhaul/api.Block]"], unfollowed := true, recurses := true, apart := false, narrowed := true }
def RbufRoomsUptoSaid : Prop := rbufRoomsUptoRow.holds Try.pinned (OpenSpec.upto rbufRoomsSpec)

/-- 'downhaullaw26.RbufTogether', WHERE WHAT IT READS IS OF BULK AT MOST 1048576: true; the input reads as it did. -/
def rbufTogetherUptoRow : OpenClaim := { program := "ytblkfpipmdfmkaa", sum := "c5d04a8930750f1835c9de925869357dc2232e2c44f9ac22c56f1d3ec0288215", func := "downhaul/downhaullaw26.RbufTogether", spec := "rbufTogether", inPlace := ["slices.overlaps[downhaul/sack.run]", "slices.overlaps[downhaul/api.Block]"], unfollowed := true, recurses := true, apart := false, narrowed := true }
def RbufTogetherUptoSaid : Prop := rbufTogetherUptoRow.holds Try.pinned (OpenSpec.upto rbufTogetherSpec)

end Rows
end Go.Proofs.Ytblkfpipmdfmkaa
