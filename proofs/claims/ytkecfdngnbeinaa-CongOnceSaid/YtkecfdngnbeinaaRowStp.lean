/- How the events of the law's loop that come in are opened. -/
import Derived.Test.YtkecfdngnbeinaaRowS
import Derived.Test.YtkecfdngnbeinaaCongJ
namespace Go.Proofs.Ytkecfdngnbeinaa
set_option linter.unusedVariables false
set_option linter.unusedSimpArgs false
open Go.ChangeShapes Go.WideShapes Go.ChangeAt Go.RowKit
section
variable {H : Type} {enc : TypeId × Value → H} {w : World} {base : Nat} {spare : Nat → Bool} {held : Bool}
theorem open_stp {fuel : Nat} {cs : List Value} {x : DataW H × List MemPlace} (h : DataW.trod enc Try.prog w base spare held fuel 29 cs = some x) : ∃ s : Stp, cs = s.cells ∧ s.Ok := by
  have c4 : Try.prog.cellsOf 29 = 4 := by kernel_rfl
  obtain ⟨hl, m, hf⟩ := trod_fld Try.underlying29 h
  obtain ⟨n0, e0, w0⟩ := fld_int Try.underlying5 (by kernel_rfl) (hf 0 _ rfl)
  obtain ⟨n1, e1, w1⟩ := fld_int Try.underlying3 (by kernel_rfl) (hf 1 _ rfl)
  obtain ⟨n2, e2, w2⟩ := fld_int Try.underlying24 (by kernel_rfl) (hf 2 _ rfl)
  obtain ⟨n3, e3, w3⟩ := fld_int Try.underlying3 (by kernel_rfl) (hf 3 _ rfl)
  exact ⟨⟨n0, n1, n2, n3⟩, list4 (by rw [hl, c4]) e0 e1 e2 e3, ⟨wf_u8 w0, wf_i64 w1, wf_i64 w3⟩⟩
theorem arg_ss {r : Reach} {b0 : Nat} {v : Value} {d : DataW H} {ps : List MemPlace} (hv : Value.okWide Try.prog w r b0 22 v) (h : DataW.Trod enc Try.prog w base spare held 22 v d ps) : ∃ ss, SS w v ss := by
  have c4 : Try.prog.cellsOf 29 = 4 := by kernel_rfl
  obtain ⟨A, n, c, rfl, h1, h2, _, h3⟩ := arg_rows Try.underlying22 hv h
  obtain ⟨ss, hl, hs⟩ := list_choose (fun k (s : Stp) => s.Ok ∧ ∃ a : Addr, A = some a ∧ ∀ (j : Nat) u, s.cells[j]? = some u → w.cell? ((a.add (k * 4)).add j) = some u) n (fun k hk => by
    obtain ⟨a, rfl, ds, _, h5, m, y, h6⟩ := h3 k hk
    obtain ⟨s, rfl, hs⟩ := open_stp h6
    rw [c4] at h5
    exact ⟨s, hs, a, rfl, h5⟩)
  subst hl
  refine ⟨ss, A, c, rfl, h1, h2, fun s hm => ?_, fun k s hk => (hs k s hk).2⟩
  obtain ⟨k, hk, rfl⟩ := List.getElem_of_mem hm
  exact (hs k _ (List.getElem?_eq_getElem hk)).1
end
end Go.Proofs.Ytkecfdngnbeinaa
