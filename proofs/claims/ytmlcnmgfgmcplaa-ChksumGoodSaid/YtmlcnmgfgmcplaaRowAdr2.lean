/- How pairs of addresses, and of numbers, that come in are opened. -/
import Derived.Test.YtmlcnmgfgmcplaaRowAdr
namespace Go.Proofs.Ytmlcnmgfgmcplaa
set_option linter.unusedVariables false
set_option linter.unusedSimpArgs false
open Go.ChangeShapes Go.WideShapes Go.ChangeAt Go.RowKit
section
variable {H : Type} {enc : TypeId × Value → H} {w : World} {base : Nat} {spare : Nat → Bool} {held : Bool}
theorem okWide_array {P : Program} {r : Reach} {b0 : Nat} {t e : TypeId} {n : Nat} {v : Value} (ht : P.underlying t = some (.array n e)) (h : Value.okWide P w r b0 t v) : ∃ cs, v = .agg cs ∧ cs.size = P.cellsOf t := by
  simp only [Value.okWide, ht] at h
  obtain ⟨cs, h1, h2, _⟩ := h
  exact ⟨cs, h1, h2⟩
theorem arg_adr2 {r : Reach} {b0 : Nat} {v : Value} {d : DataW H} {ps : List MemPlace} (hv : Value.okWide Try.prog w r b0 38 v) (h : DataW.Trod enc Try.prog w base spare held 38 v d ps) : ∃ s d : Adr, v = .agg (s.cells ++ d.cells) := by
  obtain ⟨cs, rfl, _⟩ := okWide_array Try.underlying38 hv
  obtain ⟨fuel, hf⟩ := h
  obtain ⟨xs, m, _, _, hl, hxl, hg⟩ := DataW.trod_array Try.underlying38 hf
  have c37 : Try.prog.cellsOf 37 = 17 := by kernel_rfl
  have c38 : Try.prog.cellsOf 38 = 34 := by kernel_rfl
  rw [c38] at hl
  have h0 := hg 0 (by omega)
  have h1 := hg 1 (by omega)
  have hx0 : xs[0]? = some (xs[0]'(by omega)) := List.getElem?_eq_getElem (by omega)
  have hx1 : xs[1]? = some (xs[1]'(by omega)) := List.getElem?_eq_getElem (by omega)
  rw [hx0, c37] at h0
  rw [hx1, c37] at h1
  obtain ⟨a, ha⟩ := open_adr h0
  obtain ⟨b, hb⟩ := open_adr h1
  refine ⟨a, b, ?_⟩
  have : cs = a.cells ++ b.cells := by
    apply Array.toList_inj.1
    rw [Array.toList_append, ← ha, ← hb]
    simp only [Value.cells] at hl ⊢
    simp only [Nat.zero_mul, List.drop_zero, Nat.one_mul]
    rw [List.take_of_length_le (l := cs.toList.drop 17) (by rw [List.length_drop]; omega), List.take_append_drop]
  rw [this]
theorem arg_int2 {r : Reach} {b0 : Nat} {v : Value} {d : DataW H} {ps : List MemPlace} (hv : Value.okWide Try.prog w r b0 39 v) (h : DataW.Trod enc Try.prog w base spare held 39 v d ps) :
    ∃ a b : Int, v = .agg #[.int .i64 a, .int .i64 b] ∧ (-9223372036854775808 ≤ a ∧ a ≤ 9223372036854775807) ∧ (-9223372036854775808 ≤ b ∧ b ≤ 9223372036854775807) := by
  obtain ⟨cs, rfl, _⟩ := okWide_array Try.underlying39 hv
  obtain ⟨fuel, hf⟩ := h
  obtain ⟨xs, m, _, _, hl, hxl, hg⟩ := DataW.trod_array Try.underlying39 hf
  have c3 : Try.prog.cellsOf 3 = 1 := by kernel_rfl
  have c39 : Try.prog.cellsOf 39 = 2 := by kernel_rfl
  rw [c39] at hl
  have h0 := hg 0 (by omega)
  have h1 := hg 1 (by omega)
  have hx0 : xs[0]? = some (xs[0]'(by omega)) := List.getElem?_eq_getElem (by omega)
  have hx1 : xs[1]? = some (xs[1]'(by omega)) := List.getElem?_eq_getElem (by omega)
  rw [hx0, c3] at h0
  rw [hx1, c3] at h1
  obtain ⟨a, ha, _, wa⟩ := DataW.trod_int Try.underlying3 h0
  obtain ⟨b, hb, _, wb⟩ := DataW.trod_int Try.underlying3 h1
  refine ⟨a, b, ?_, wf_i64 wa, wf_i64 wb⟩
  have : cs = #[.int .i64 a, .int .i64 b] := by
    apply Array.toList_inj.1
    simp only [Value.cells] at hl ha hb
    match hcs : cs.toList, hl with
    | [c0, c1], _ =>
      rw [hcs] at ha hb
      simp at ha hb
      rw [ha, hb]
  rw [this]
end
end Go.Proofs.Ytmlcnmgfgmcplaa
