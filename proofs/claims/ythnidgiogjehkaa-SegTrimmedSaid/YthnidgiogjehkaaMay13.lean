/- Walk: whether a segment may be, by the document. -/
import Derived.Test.YthnidgiogjehkaaMay12
namespace Go.Proofs.Ythnidgiogjehkaa
set_option linter.unusedVariables false
set_option linter.unusedSimpArgs false
set_option maxRecDepth 20000
open Go.RowKit

def mayG (s : SegM) : Bool := mayO s.o && decide (s.flags ≤ 63) && decide (s.data.length ≤ 16384)
set_option maxRecDepth 20000 in
set_option maxHeartbeats 4000000 in
theorem may13_any (s : SegM) (w : World) (hs : SegOk w s) (hsl : s.o.sacks.length ≤ 1000) :
    Calls Try.prog 14 #[.agg s.cells] w fun e w' => e = .returned (.bool (mayG s)) ∧ Below w.heap.size w w' := by
  have HM := hid (fun W (h : Below w.heap.size w W) => may12_any s.o W (hs.o.below h) hsl)
  have HOC := hid (fun (W : World) (g : Nat) (h : W.heap[g]? = some (.cells s.cells 34 (0, 0))) => seg_cells h hs.o.mac)
  have HOO := hid (fun (W : World) (g : Nat) (h : W.heap[g]? = some (.cells s.cells 34 (0, 0))) => seg_optsX h)
  have HI := hid (info_optsX s.o hs.o.mac)
  obtain ⟨t1, h1⟩ : ∃ t, mayO s.o = t := ⟨_, rfl⟩
  obtain ⟨t2, h2⟩ : ∃ t, decide (s.flags ≤ 63) = t := ⟨_, rfl⟩
  obtain ⟨t3, h3⟩ : ∃ t, decide (s.data.length ≤ 16384) = t := ⟨_, rfl⟩
  have HR := hid (show mayG s = (t1 && t2 && t3) by rw [← h1, ← h2, ← h3]; rfl)
  have i2 : decide ((s.flags : Int) ≤ 63) = t2 := by rw [← h2, decide_eq_decide]; omega
  have i3 : decide ((s.data.length : Int) ≤ 16384) = t3 := by rw [← h3, decide_eq_decide]; omega
  rw [h1] at HM
  generalize hr : mayG s = r at HR ⊢
  generalize hco : s.o.cells = co at HOO HI HM
  generalize hcs : s.cells = cs at HOC HOO ⊢
  clear hr hco hcs h1 hs hsl
  obtain ⟨B, hB⟩ : ∃ B, w.heap.size = B := ⟨_, rfl⟩
  rw [hB] at HM
  have HB := hid hB
  clear hB
  have FIN : ∀ (b : Bool) W, r = b → Below B w W → (Ending.returned (Value.bool b) = .returned (.bool r) ∧ Below w.heap.size w W) := fun b W h1 h2 => ⟨by rw [h1], by rw [HB.out]; exact h2⟩
  have HFIN := hid FIN
  clear FIN
  go_enter Try.func14, Try.ntmps14
  go_wp2_with (first
    | ((with_reducible refine at_slot 1 ?_); refine wpList_boxF rfl 34 (.tmp 0) rfl cs rfl ?_; intro w1 hx1 hb1 hz1; rw [HB.out] at hx1 hb1 hz1 ⊢)
    | ((with_reducible refine at_slot 4 ?_); refine wpList_load_at 31 (.tmp 3) rfl rfl ⟨B, 7, none⟩ rfl co _ (HOO.out _ _ hx1) Try.underlying31 rfl HI.out ?_))
  (with_reducible refine Calls.mono (HM.out _ hb1) ?_)
  rintro e w2 ⟨rfl, hb2⟩
  have hx2 := (hb2.block _ (Array.getElem?_eq_some_iff.1 hx1).1).trans hx1
  have HB2 := hid (hb1.trans (hb2.mono (by omega)))
  obtain ⟨f0, f1, f2, f3, f4, f5, f6, f7⟩ := HOC.out _ _ hx2
  clear f0 f1 f2 f3 f5 f6 hx1 hx2 hb1 hb2 hz1
  cases t1
  · clear h2 h3 i2 i3
    go_wp2_with fail
    go_ret
    exact HFIN.out false _ (by rw [HR.out]; rfl) HB2.out
  · cases t2
    · clear h3 i3
      go_wp2_with fail
      go_ret
      exact HFIN.out false _ (by rw [HR.out]; rfl) HB2.out
    · cases t3
      · go_wp2_with fail
        go_ret
        exact HFIN.out false _ (by rw [HR.out]; rfl) HB2.out
      · go_wp2_with fail
        go_ret
        exact HFIN.out true _ (by rw [HR.out]; rfl) HB2.out
end Go.Proofs.Ythnidgiogjehkaa
