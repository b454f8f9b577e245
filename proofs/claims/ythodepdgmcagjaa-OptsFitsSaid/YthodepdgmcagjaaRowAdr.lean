/- How addresses that come in are opened. -/
import Derived.Test.YthodepdgmcagjaaRow
import Derived.Test.YthodepdgmcagjaaAdr
namespace Go.Proofs.Ythodepdgmcagjaa
set_option linter.unusedVariables false
set_option linter.unusedSimpArgs false
open Go.ChangeShapes Go.WideShapes Go.ChangeAt Go.RowKit

section
variable {H : Type} {enc : TypeId × Value → H} {P : Program} {w : World} {base : Nat} {spare : Nat → Bool} {held : Bool}
theorem open_u8s {t e : TypeId} {n fuel : Nat} {cs : List Value} {x : DataW H × List MemPlace} (ht : P.underlying t = some (.array n e)) (he : P.underlying e = some (.int .u8)) (hc : P.cellsOf e = 1) (hn : P.cellsOf t = n)
    (h : DataW.trod enc P w base spare held fuel t cs = some x) : ∃ bs : List UInt8, bs.length = n ∧ cs = by8 bs := by
  obtain ⟨xs, m, _, _, hl, hxl, hg⟩ := DataW.trod_array ht h
  rw [hn] at hl
  have each : ∀ i, i < n → ∃ k : Int, cs[i]? = some (.int .u8 k) ∧ 0 ≤ k ∧ k ≤ 255 := by
    intro i hi
    have h1 := hg i hi
    rw [hc, Nat.mul_one] at h1
    have hx : xs[i]? = some (xs[i]'(by omega)) := List.getElem?_eq_getElem (by omega)
    rw [hx] at h1
    obtain ⟨k, hk, _, hw⟩ := DataW.trod_int he h1
    have hr : 0 ≤ k ∧ k ≤ 255 := wf_u8 hw
    refine ⟨k, ?_, hr.1, hr.2⟩
    have h2 : ((cs.drop i).take 1)[0]? = some (.int .u8 k) := by rw [hk]; rfl
    rw [List.getElem?_take, if_pos (by omega), List.getElem?_drop] at h2
    simpa using h2
  refine ⟨cs.map byteOf, by simpa using hl, ?_⟩
  apply List.ext_getElem?
  intro i
  by_cases hi : i < n
  · obtain ⟨k, hk, h0, h1⟩ := each i hi
    rw [hk, by8, List.getElem?_map, List.getElem?_map, hk]
    simp only [Option.map_some, byteOf, u8]
    have : (UInt8.ofNat k.toNat).toNat = k.toNat := by simp; omega
    rw [this, Int.toNat_of_nonneg h0]
  · rw [List.getElem?_eq_none (by omega), List.getElem?_eq_none (by simp [by8]; omega)]
end

section
variable {H : Type} {enc : TypeId × Value → H} {w : World} {base : Nat} {spare : Nat → Bool} {held : Bool}
end
end Go.Proofs.Ythodepdgmcagjaa
