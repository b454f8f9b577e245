/- How steps of layer 26 that come in are opened. -/
import Derived.Test.YtblkfpipmdfmkaaRowS
import Derived.Test.YtblkfpipmdfmkaaRbS
import Derived.Test.YtblkfpipmdfmkaaRowBlk
namespace Go.Proofs.Ytblkfpipmdfmkaa
set_option linter.unusedVariables false
set_option linter.unusedSimpArgs false
open Go.ChangeShapes Go.WideShapes Go.ChangeAt Go.RowKit
theorem wf_i32 {n : Int} (h : (Lit.int .i32 n).wf = true) : -2147483648 ≤ n ∧ n ≤ 2147483647 := by
  simpa [Lit.wf, IntKind.min, IntKind.max, IntKind.signed, IntKind.bits] using h
def StpOk (w : World) (s : StpB) : Prop := -9223372036854775808 ≤ s.N ∧ s.N ≤ 9223372036854775807 ∧ -2147483648 ≤ s.ah ∧ s.ah ≤ 2147483647 ∧ RB w (.slice s.A s.p.length s.c) s.p
section
variable {H : Type} {enc : TypeId × Value → H} {w : World} {base : Nat} {spare : Nat → Bool} {held : Bool}
theorem open_stpB {fuel : Nat} {cs : List Value} {x : DataW H × List MemPlace} (h : DataW.trod enc Try.prog w base spare held fuel 34 cs = some x) :
    ∃ s : StpB, cs = s.cells ∧ StpOk w s := by
  have c4 : Try.prog.cellsOf 34 = 4 := by kernel_rfl
  obtain ⟨hl, m, hf⟩ := trod_fld Try.underlying34 h
  obtain ⟨b0, e0⟩ := fld_bool Try.underlying4 (by kernel_rfl) (hf 0 _ rfl)
  obtain ⟨n1, e1, w1⟩ := fld_int Try.underlying3 (by kernel_rfl) (hf 1 _ rfl)
  obtain ⟨n2, e2, w2⟩ := fld_int Try.underlying21 (by kernel_rfl) (hf 2 _ rfl)
  obtain ⟨v3, xs, e3, h3⟩ := fld_rb Try.underlying32 Try.underlying5 (by kernel_rfl) (by kernel_rfl) (by rw [hl, c4]; decide) (hf 3 _ rfl)
  have h1 := wf_i64 w1
  have h2 := wf_i32 w2
  have h3' := h3
  obtain ⟨A, c, rfl, _⟩ := h3
  exact ⟨⟨b0, n1, n2, A, c, xs⟩, list4 (by rw [hl, c4]) e0 e1 e2 e3, h1.1, h1.2, h2.1, h2.2, h3'⟩
theorem arg_brow {r : Reach} {b0 : Nat} {v : Value} {d : DataW H} {ps : List MemPlace} (hv : Value.okWide Try.prog w r b0 24 v) (h : DataW.Trod enc Try.prog w base spare held 24 v d ps) : ∃ A c ss, v = .slice A ss.length c ∧ BRow w A c ss := by
  have c4 : Try.prog.cellsOf 34 = 4 := by kernel_rfl
  obtain ⟨A, n, c, rfl, h1, h2, _, h3⟩ := arg_rows Try.underlying24 hv h
  obtain ⟨ss, hl, hs⟩ := list_choose (fun k (s : StpB) => StpOk w s ∧ ∃ a : Addr, A = some a ∧ ∀ (j : Nat) u, s.cells[j]? = some u → w.cell? ((a.add (k * 4)).add j) = some u) n (fun k hk => by
    obtain ⟨a, rfl, ds, _, h5, m, y, h6⟩ := h3 k hk
    obtain ⟨s, rfl, hs⟩ := open_stpB h6
    rw [c4] at h5
    exact ⟨s, hs, a, rfl, h5⟩)
  subst hl
  refine ⟨A, c, ss, rfl, row_flat StpB.cells 4 (fun _ => rfl) w A c ss h1 h2 fun k x hk => (hs k x hk).2, fun s hb => ?_⟩
  obtain ⟨k, hk, rfl⟩ := List.getElem_of_mem hb
  exact (hs k _ (List.getElem?_eq_getElem hk)).1
theorem arg_stpB {r : Reach} {b0 : Nat} {v : Value} {d : DataW H} {ps : List MemPlace} (hv : Value.okWide Try.prog w r b0 34 v) (h : DataW.Trod enc Try.prog w base spare held 34 v d ps) : ∃ s : StpB, v = .agg #[.bool s.rd, .int .i64 s.N, .int .i32 s.ah, .slice s.A s.p.length s.c] ∧ StpOk w s := by
  obtain ⟨cs, rfl, m, y, h1⟩ := arg_struct Try.underlying34 hv h
  obtain ⟨s, h2, h3⟩ := open_stpB h1
  exact ⟨s, by rw [show cs = s.cells.toArray from Array.toList_inj.1 h2]; rfl, h3⟩
end
end Go.Proofs.Ytblkfpipmdfmkaa
