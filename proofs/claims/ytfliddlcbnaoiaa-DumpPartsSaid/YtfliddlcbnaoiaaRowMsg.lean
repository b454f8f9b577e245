/- How messages that come in are opened. -/
import Derived.Test.YtfliddlcbnaoiaaRowS
import Derived.Test.YtfliddlcbnaoiaaIcmpP
namespace Go.Proofs.Ytfliddlcbnaoiaa
set_option linter.unusedVariables false
set_option linter.unusedSimpArgs false
open Go.ChangeShapes Go.WideShapes Go.ChangeAt Go.RowKit
section
variable {H : Type} {enc : TypeId × Value → H} {w : World} {base : Nat} {spare : Nat → Bool} {held : Bool}
theorem arg_msg {r : Reach} {b0 : Nat} {v : Value} {d : DataW H} {ps : List MemPlace} (hv : Value.okWide Try.prog w r b0 37 v) (h : DataW.Trod enc Try.prog w base spare held 37 v d ps) : ∃ (m : Msg) (dv : Value), v = m.v dv ∧ m.Ok ∧ RB w dv m.data := by
  have c6 : Try.prog.cellsOf 37 = 6 := by kernel_rfl
  obtain ⟨cs, rfl, m, y, h1⟩ := arg_struct Try.underlying37 hv h
  obtain ⟨hl, m, hf⟩ := trod_fld Try.underlying37 h1
  obtain ⟨n0, e0, w0⟩ := fld_int Try.underlying3 (by kernel_rfl) (hf 0 _ rfl)
  obtain ⟨n1, e1, w1⟩ := fld_int Try.underlying5 (by kernel_rfl) (hf 1 _ rfl)
  obtain ⟨n2, e2, w2⟩ := fld_int Try.underlying22 (by kernel_rfl) (hf 2 _ rfl)
  obtain ⟨n3, e3, w3⟩ := fld_int Try.underlying22 (by kernel_rfl) (hf 3 _ rfl)
  obtain ⟨n4, e4, w4⟩ := fld_int Try.underlying23 (by kernel_rfl) (hf 4 _ rfl)
  obtain ⟨u, xs, e5, hr⟩ := fld_rb Try.underlying28 Try.underlying5 (by kernel_rfl) (by kernel_rfl) (by rw [hl, c6]; decide) (hf 5 _ rfl)
  refine ⟨⟨n0, n1, n2, n3, n4, xs⟩, u, ?_, ⟨wf_i64 w0, wf_u8 w1, wf_u16 w2, wf_u16 w3, wf_u32 w4⟩, hr⟩
  have := list6 (by rw [hl, c6]) e0 e1 e2 e3 e4 e5
  unfold Msg.v Msg.cells
  rw [show cs = #[.int .i64 n0, .int .u8 n1, .int .u16 n2, .int .u16 n3, .int .u32 n4, u] from Array.toList_inj.1 this]
end
end Go.Proofs.Ytfliddlcbnaoiaa
