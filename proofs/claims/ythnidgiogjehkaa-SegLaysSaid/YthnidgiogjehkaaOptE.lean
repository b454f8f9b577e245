/- Walks: the document's Lay and Size; the law Lays of layer 12. -/
import Derived.Test.YthnidgiogjehkaaOptD
namespace Go.Proofs.Ythnidgiogjehkaa
set_option linter.unusedVariables false
set_option linter.unusedSimpArgs false
set_option maxRecDepth 20000
open Go.RowKit

set_option maxRecDepth 20000 in
theorem rlay12_any (o : OptM) (w : World) (ho : OptOk w o) (hsl : o.sacks.length ≤ 1000) : Calls Try.prog 56 #[.agg o.cells] w (LayRes w.heap.size w o) := by
  have HMY := hid (fun W (h : Below w.heap.size w W) => may12_any o W (ho.below h) hsl)
  have HBY := hid (fun W (h : Below w.heap.size w W) => bytes12_any o W (ho.below h) hsl)
  have HI := hid (info_optsX o ho.mac)
  have HYES := hid (fun (h : mayO o = true) (W : World) A c (h1 : OB W w.heap.size (.slice A (bytesO o).length c) (bytesO o)) (h2 : Below w.heap.size w W) => lay_yes h rfl h1 h2)
  have HNO := hid (fun (h : mayO o = false) (W : World) (h2 : Below w.heap.size w W) => lay_no h h2)
  obtain ⟨m, hm⟩ : ∃ m, mayO o = m := ⟨_, rfl⟩
  rw [hm] at HMY HYES HNO
  clear hm
  generalize bytesO o = b at HBY HYES
  generalize o.cells = co at HMY HBY HI ⊢
  obtain ⟨B, hB⟩ : ∃ x, w.heap.size = x := ⟨_, rfl⟩
  rw [hB] at HMY HBY HYES HNO ⊢
  have HB := hid hB
  clear hB ho
  go_enter Try.func56, Try.ntmps56
  go_wp2_with (first
    | ((with_reducible refine at_slot 1 ?_); refine wpList_boxF rfl 31 (.tmp 0) rfl co rfl ?_; intro w1 hx1 hb1 hz1; rw [HB.out] at hx1 hb1 hz1 ⊢; have X := hid hx1; have BB := hid hb1; have Z := hid hz1; clear hx1 hb1 hz1)
    | ((with_reducible refine at_slot 4 ?_); refine wpList_load_row rfl 31 (.tmp 1) rfl B rfl _ co _ _ X.out Try.underlying31 rfl HI.out ?_))
  (with_reducible refine Calls.mono (HMY.out _ BB.out) ?_)
  rintro e w2 ⟨rfl, hb2⟩
  have X2 := hid ((hb2.block _ (by have := Z.out; omega)).trans X.out)
  have B2 := hid (BB.out.trans (hb2.mono (by have := Z.out; omega)))
  have Z2 := hid (show B + 1 ≤ w2.heap.size by have := Z.out; have := hb2.size; omega)
  clear hb2 X BB Z
  cases m
  case false =>
    go_wp2_with fail
    go_ret2
    exact HNO.out (by simp) _ B2.out
  go_wp2_with ((with_reducible refine at_slot 7 ?_); refine wpList_load_row rfl 31 (.tmp 1) rfl B rfl _ co _ _ X2.out Try.underlying31 rfl HI.out ?_)
  (with_reducible refine Calls.mono (HBY.out _ B2.out) ?_)
  rintro e w3 ⟨A3, c3, rfl, ho3, hb3⟩
  have B3 := hid (B2.out.trans (hb3.mono (by have := Z2.out; omega)))
  have HO3 := hid (OB.lower ho3 (show B ≤ w2.heap.size by have := Z2.out; omega))
  clear hb3 ho3
  go_wp2_with fail
  go_ret2
  exact HYES.out (by simp) _ A3 c3 HO3.out B3.out
end Go.Proofs.Ythnidgiogjehkaa
