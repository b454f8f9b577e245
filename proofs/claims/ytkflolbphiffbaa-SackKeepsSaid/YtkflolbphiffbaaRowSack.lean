/- How steps of layer 24 that come in are opened. -/
import Derived.Test.YtkflolbphiffbaaRowS
import Derived.Test.YtkflolbphiffbaaSackH
namespace Go.Proofs.Ytkflolbphiffbaa
set_option linter.unusedVariables false
set_option linter.unusedSimpArgs false
open Go.ChangeShapes Go.WideShapes Go.ChangeAt Go.RowKit
theorem list5 {α : Type} {cs : List α} {a b c d e : α} (h : cs.length = 5) (h0 : cs[0]? = some a) (h1 : cs[1]? = some b) (h2 : cs[2]? = some c) (h3 : cs[3]? = some d) (h4 : cs[4]? = some e) : cs = [a, b, c, d, e] := by
  match cs, h with
  | [x0, x1, x2, x3, x4], _ => simp at h0 h1 h2 h3 h4; rw [h0, h1, h2, h3, h4]
section
variable {H : Type} {enc : TypeId × Value → H} {P : Program} {w : World} {base : Nat} {spare : Nat → Bool} {held : Bool} {m : Nat} {cs : List Value} {o : Nat} {t : TypeId}
theorem fld_slice {e : TypeId} (ht : P.underlying t = some (.slice e)) (hc : P.cellsOf t = 1) (ho : o < cs.length)
    (h : ∃ y, DataW.trod enc P w base spare held m t ((cs.drop o).take (P.cellsOf t)) = some y) : ∃ A n c, cs[o]? = some (.slice A n c) := by
  obtain ⟨y, h⟩ := h
  rw [hc] at h
  have e1 : (cs.drop o).take 1 = [cs[o]] := by rw [List.drop_eq_getElem_cons ho]; rfl
  rw [e1] at h
  obtain ⟨A, n, c, hu, _⟩ := open_rows ht h
  exact ⟨A, n, c, by rw [List.getElem?_eq_getElem ho, hu]⟩
end
section
variable {H : Type} {enc : TypeId × Value → H} {w : World} {base : Nat} {spare : Nat → Bool} {held : Bool}
theorem arg_step1 {r : Reach} {b0 : Nat} {v : Value} {d : DataW H} {ps : List MemPlace} (hv : Value.okWide Try.prog w r b0 31 v) (h : DataW.Trod enc Try.prog w base spare held 31 v d ps) : ∃ k nx fr ms A n c, v = .agg (stC k nx fr ms A n c) := by
  have c5 : Try.prog.cellsOf 31 = 5 := by kernel_rfl
  obtain ⟨cs, rfl, m, y, h1⟩ := arg_struct Try.underlying31 hv h
  obtain ⟨hl, m, hf⟩ := trod_fld Try.underlying31 h1
  obtain ⟨n0, e0, _⟩ := fld_int Try.underlying5 (by kernel_rfl) (hf 0 _ rfl)
  obtain ⟨n1, e1, _⟩ := fld_int Try.underlying22 (by kernel_rfl) (hf 1 _ rfl)
  obtain ⟨n2, e2, _⟩ := fld_int Try.underlying22 (by kernel_rfl) (hf 2 _ rfl)
  obtain ⟨n3, e3, _⟩ := fld_int Try.underlying3 (by kernel_rfl) (hf 3 _ rfl)
  obtain ⟨A, n, c, e4⟩ := fld_slice Try.underlying29 (by kernel_rfl) (by rw [hl, c5]; decide) (hf 4 _ rfl)
  refine ⟨n0, n1, n2, n3, A, n, c, ?_⟩
  have := list5 (by rw [hl, c5]) e0 e1 e2 e3 e4
  rw [show cs = stC n0 n1 n2 n3 A n c from Array.toList_inj.1 this]
end
end Go.Proofs.Ytkflolbphiffbaa
