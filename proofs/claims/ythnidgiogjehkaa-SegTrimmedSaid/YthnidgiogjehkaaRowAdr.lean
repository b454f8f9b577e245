/- How addresses that come in are opened. -/
import Derived.Test.YthnidgiogjehkaaRow
import Derived.Test.YthnidgiogjehkaaAdr
namespace Go.Proofs.Ythnidgiogjehkaa
set_option linter.unusedVariables false
set_option linter.unusedSimpArgs false
set_option maxRecDepth 20000
open Go.ChangeShapes Go.WideShapes Go.ChangeAt Go.RowKit

section
variable {H : Type} {enc : TypeId × Value → H} {P : Program} {w : World} {base : Nat} {spare : Nat → Bool} {held : Bool}
theorem open_u8s {t e : TypeId} {n fuel : Nat} {cs : List Value} {x : DataW H × List MemPlace} (ht : P.underlying t = some (.array n e)) (he : P.underlying e = some (.int .u8)) (hc : P.cellsOf e = 1) (hn : P.cellsOf t = n)
    (h : DataW.trod enc P w base spare held fuel t cs = some x) : ∃ bs : List UInt8, bs.length = n ∧ cs = by8 bs := by
  obtain ⟨xs, m, _, _, hl, hxl, hg⟩ := DataW.trod_array ht h
  rw [hn] at hl
  have each : ∀ i, i < n → ∃ k : Int, cs[i]? = some (.int .u8 k) ∧ 0 ≤ k ∧ k ≤ 255 := by
    intro i hi
    have h1 := hg i hi
    rw [hc, Nat.mul_one] at h1
    have hx : xs[i]? = some (xs[i]'(by omega)) := List.getElem?_eq_getElem (by omega)
    rw [hx] at h1
    obtain ⟨k, hk, _, hw⟩ := DataW.trod_int he h1
    have hr : 0 ≤ k ∧ k ≤ 255 := wf_u8 hw
    refine ⟨k, ?_, hr.1, hr.2⟩
    have h2 : ((cs.drop i).take 1)[0]? = some (.int .u8 k) := by rw [hk]; rfl
    rw [List.getElem?_take, if_pos (by omega), List.getElem?_drop] at h2
    simpa using h2
  refine ⟨cs.map byteOf, by simpa using hl, ?_⟩
  apply List.ext_getElem?
  intro i
  by_cases hi : i < n
  · obtain ⟨k, hk, h0, h1⟩ := each i hi
    rw [hk, by8, List.getElem?_map, List.getElem?_map, hk]
    simp only [Option.map_some, byteOf, u8]
    have : (UInt8.ofNat k.toNat).toNat = k.toNat := by simp; omega
    rw [this, Int.toNat_of_nonneg h0]
  · rw [List.getElem?_eq_none (by omega), List.getElem?_eq_none (by simp [by8]; omega)]
end

section
variable {H : Type} {enc : TypeId × Value → H} {w : World} {base : Nat} {spare : Nat → Bool} {held : Bool}
theorem open_adr {fuel : Nat} {cs : List Value} {x : DataW H × List MemPlace} (h : DataW.trod enc Try.prog w base spare held fuel 24 cs = some x) : ∃ a : Adr, cs = a.cells.toList := by
  obtain ⟨xs, m, _, _, hl, hxl, hg⟩ := DataW.trod_struct Try.underlying24 h
  have c37 : Try.prog.cellsOf 24 = 17 := by kernel_rfl
  have c4 : Try.prog.cellsOf 4 = 1 := by kernel_rfl
  have c35 : Try.prog.cellsOf 22 = 16 := by kernel_rfl
  rw [c37] at hl
  have h0 := hg 0 _ rfl
  have h1 := hg 1 _ rfl
  have hxl : xs.length = 2 := hxl
  have hx0 : xs[0]? = some (xs[0]'(by omega)) := List.getElem?_eq_getElem (by omega)
  have hx1 : xs[1]? = some (xs[1]'(by omega)) := List.getElem?_eq_getElem (by omega)
  rw [hx0] at h0
  rw [hx1] at h1
  have h0 : DataW.trod enc Try.prog w base spare held m 4 ((cs.drop 0).take (Try.prog.cellsOf 4)) = some (xs[0]'(by omega)) := h0
  have h1 : DataW.trod enc Try.prog w base spare held m 22 ((cs.drop 1).take (Try.prog.cellsOf 22)) = some (xs[1]'(by omega)) := h1
  rw [c4] at h0
  rw [c35] at h1
  obtain ⟨six, hs, _⟩ := DataW.trod_bool Try.underlying4 h0
  obtain ⟨bs, hb, hbs⟩ := open_u8s Try.underlying22 Try.underlying5 (by kernel_rfl) c35 h1
  have hcs : cs = .bool six :: by8 bs := by
    have e1 : cs = cs.take 1 ++ (cs.drop 1).take 16 := by
      rw [List.take_of_length_le (l := cs.drop 1) (by rw [List.length_drop]; omega), List.take_append_drop]
    rw [e1]
    have hs' : cs.take 1 = [.bool six] := by simpa using hs
    rw [hs', ← hbs]
    rfl
  match bs, hb with
  | [b0, b1, b2, b3, b4, b5, b6, b7, b8, b9, b10, b11, b12, b13, b14, b15], _ =>
    exact ⟨⟨six, b0, b1, b2, b3, b4, b5, b6, b7, b8, b9, b10, b11, b12, b13, b14, b15⟩, by rw [hcs]; rfl⟩
theorem arg_adr {r : Reach} {b0 : Nat} {v : Value} {d : DataW H} {ps : List MemPlace} (hv : Value.okWide Try.prog w r b0 24 v) (h : DataW.Trod enc Try.prog w base spare held 24 v d ps) : ∃ a : Adr, v = .agg a.cells := by
  obtain ⟨cs, rfl, _⟩ := okWide_struct Try.underlying24 hv
  obtain ⟨fuel, hf⟩ := h
  obtain ⟨a, ha⟩ := open_adr hf
  exact ⟨a, by rw [show cs = a.cells from Array.toList_inj.1 ha]⟩
end
end Go.Proofs.Ythnidgiogjehkaa
