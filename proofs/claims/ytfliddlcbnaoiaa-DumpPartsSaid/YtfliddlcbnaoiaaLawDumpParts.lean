/- DumpParts: the parts of any segment, and message, and any flags' letters, are the document's: the law returns true at every input. -/
import Derived.Test.YtfliddlcbnaoiaaRowSeg
import Derived.Test.YtfliddlcbnaoiaaRowMsg
import Derived.Test.YtfliddlcbnaoiaaLinH
import Derived.Test.YtfliddlcbnaoiaaRow
namespace Go.Proofs.Ytfliddlcbnaoiaa
set_option linter.unusedVariables false
set_option linter.unusedSimpArgs false
open Go.ChangeShapes Go.WideShapes Go.ChangeAt Go.RowKit

set_option maxRecDepth 100000 in
theorem dumpParts_lifted (os : Os) (started : os.Started) (H : Type) (enc : TypeId × Value → H) :
    ReturnsInHanded {} Try.checked os 4 .any (Rows.dumpPartsSpec.pre6 enc Try.prog Try.f4 Rows.dumpPartsRow.domain false) (Rows.dumpPartsSpec.post enc Try.prog Try.f4 false true false false) := by
  refine returnsInHanded_of_change (C := Try.checked) own started (by kernel_rfl) Try.func4
    (ChangeSpec.witness6 (enc := enc) (C := Try.checked) false ⟨#[], #[.agg #[.int .u16 0, .int .u16 0, .int .u32 0, .int .u32 0, .int .u8 0, .int .u16 0, .int .u16 0, .bool false, .int .u16 0, .bool false, .int .u8 0, .bool false, .slice none 0 0, .bool false, .int .u32 0, .int .u32 0, .bool false, .int .u8 0, .int .u8 0, .int .u8 0, .int .u8 0, .int .u8 0, .int .u8 0, .int .u8 0, .int .u8 0, .int .u8 0, .int .u8 0, .int .u8 0, .int .u8 0, .int .u8 0, .int .u8 0, .slice none 0 0], .agg #[.int .i64 0, .int .u8 0, .int .u16 0, .int .u16 0, .int .u32 0, .slice none 0 0]], []⟩ 8 (by kernel_rfl) (by kernel_rfl) (by kernel_rfl) (by kernel_rfl)) ?_
  intro W base args ds gs before hval0 hW _ _
  have hval : ∀ (j : Nat) t v, Try.f4.params[j]? = some t → args[j]? = some v → Value.okWide Try.prog W .any base t v := hval0
  have hW' := hW
  obtain ⟨p, q, hA0, hV, rfl, hfz, hnd⟩ := hW
  have hA : DataW.TrodAll enc Try.prog W 0 (fun _ => true) true Try.f4.params.toList args.toList ds p := hA0
  rw [Try.params4] at hA hval
  obtain ⟨v0, vs0, d0, ds0, p0, q0, hargs, rfl, rfl, h0, r0⟩ := trodAll_cons hA
  obtain ⟨v1, vs1, d1, ds1, p1, q1, rfl, rfl, rfl, h1, r1⟩ := trodAll_cons r0
  obtain ⟨rfl, rfl, rfl⟩ := trodAll_nil r1
  obtain rfl : args = #[v0, v1] := by cases args; simp_all
  obtain ⟨rfl, rfl⟩ := trodVars_none hV
  obtain ⟨s0, rfl, hs0⟩ := arg_seg (hval 0 _ v0 rfl rfl) h0
  obtain ⟨m1, dv1, rfl, hm1, hd1⟩ := arg_msg (hval 1 _ v1 rfl rfl) h1
  obtain ⟨kind, code, id, sq, mtu, data⟩ := m1
  obtain ⟨hk, hc, hi, hq, ht⟩ := hm1
  simp only at hk hc hi hq ht hd1
  obtain ⟨code, rfl⟩ := nat_of hc
  obtain ⟨id, rfl⟩ := nat_of hi
  obtain ⟨sq, rfl⟩ := nat_of hq
  obtain ⟨mtu, rfl⟩ := nat_of ht
  have hd2 := hd1
  obtain ⟨A1, c1, rfl, _⟩ := hd1
  clear hA0 hval0 hA
  refine (lawParts_any s0 kind code id sq mtu c1 A1 data W hs0 (by omega) (by omega) (by omega) (by omega) hd2).mono fun e W' ⟨he, hb⟩ => ?_
  subst he
  exact ⟨_, rfl, post_true laidOut rfl (by kernel_rfl) Try.underlying4 (by kernel_rfl) hW' rfl hb⟩

theorem dumpParts_holds : Rows.DumpPartsSaid :=
  OpenClaim.holds_of_wide 4 Try.f4 rfl rfl rfl rfl rfl rfl rfl ⟨rfl, rfl, rfl, rfl, rfl⟩ rfl rfl rfl rfl rfl (by kernel_rfl) Try.func4 (by kernel_rfl)
    (of_decide_eq_true (by kernel_rfl)) (by unfold Func.isWrapper; first | (rw [if_pos (by decide +kernel)]; kernel_rfl) | (rw [if_neg (by decide +kernel)]; exact ⟨rfl, rfl⟩))
    (fun os started H enc _ => dumpParts_lifted os started H enc)
#print axioms dumpParts_holds
end Go.Proofs.Ytfliddlcbnaoiaa
