/- How pairs of addresses, and of numbers, that come in are opened. -/
import Derived.Test.YthnidgiogjehkaaRowAdr
namespace Go.Proofs.Ythnidgiogjehkaa
set_option linter.unusedVariables false
set_option linter.unusedSimpArgs false
set_option maxRecDepth 20000
open Go.ChangeShapes Go.WideShapes Go.ChangeAt Go.RowKit
section
variable {H : Type} {enc : TypeId × Value → H} {w : World} {base : Nat} {spare : Nat → Bool} {held : Bool}
theorem okWide_array {P : Program} {r : Reach} {b0 : Nat} {t e : TypeId} {n : Nat} {v : Value} (ht : P.underlying t = some (.array n e)) (h : Value.okWide P w r b0 t v) : ∃ cs, v = .agg cs ∧ cs.size = P.cellsOf t := by
  simp only [Value.okWide, ht] at h
  obtain ⟨cs, h1, h2, _⟩ := h
  exact ⟨cs, h1, h2⟩
theorem arg_adr2 {r : Reach} {b0 : Nat} {v : Value} {d : DataW H} {ps : List MemPlace} (hv : Value.okWide Try.prog w r b0 25 v) (h : DataW.Trod enc Try.prog w base spare held 25 v d ps) : ∃ s d : Adr, v = .agg (s.cells ++ d.cells) := by
  obtain ⟨cs, rfl, _⟩ := okWide_array Try.underlying25 hv
  obtain ⟨fuel, hf⟩ := h
  obtain ⟨xs, m, _, _, hl, hxl, hg⟩ := DataW.trod_array Try.underlying25 hf
  have c37 : Try.prog.cellsOf 24 = 17 := by kernel_rfl
  have c38 : Try.prog.cellsOf 25 = 34 := by kernel_rfl
  rw [c38] at hl
  have h0 := hg 0 (by omega)
  have h1 := hg 1 (by omega)
  have hx0 : xs[0]? = some (xs[0]'(by omega)) := List.getElem?_eq_getElem (by omega)
  have hx1 : xs[1]? = some (xs[1]'(by omega)) := List.getElem?_eq_getElem (by omega)
  rw [hx0, c37] at h0
  rw [hx1, c37] at h1
  obtain ⟨a, ha⟩ := open_adr h0
  obtain ⟨b, hb⟩ := open_adr h1
  refine ⟨a, b, ?_⟩
  have : cs = a.cells ++ b.cells := by
    apply Array.toList_inj.1
    rw [Array.toList_append, ← ha, ← hb]
    simp only [Value.cells] at hl ⊢
    simp only [Nat.zero_mul, List.drop_zero, Nat.one_mul]
    rw [List.take_of_length_le (l := cs.toList.drop 17) (by rw [List.length_drop]; omega), List.take_append_drop]
  rw [this]
end
end Go.Proofs.Ythnidgiogjehkaa
