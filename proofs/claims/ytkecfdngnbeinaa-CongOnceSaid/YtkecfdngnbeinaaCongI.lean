/- The law's 'alive'. -/
import Derived.Test.YtkecfdngnbeinaaCongH
namespace Go.Proofs.Ytkecfdngnbeinaa
set_option linter.unusedVariables false
set_option linter.unusedSimpArgs false
open Go.RowKit

def first0 : Ctl := ⟨1000, 4000, 1073741824, 0, false, 0⟩
set_option maxHeartbeats 1000000 in
theorem acked_1000 (w : World) :
    Calls Try.prog 9 #[first0.v, .int .i64 1000, .int .u32 1, .int .i64 0] w fun e w' => e = .returned (Ctl.set first0 5000).v ∧ Below w.heap.size w w' := by
  have H := two_new w first0
  unfold first0 Ctl.v
  go_enter Try.func9, Try.ntmps9
  go_wp2_with fail
  unfold first0 at H
  generalize (w.alloc _).alloc _ = W at H ⊢
  refine (set_any ⟨1000, 4000, 1073741824, 0, false, 0⟩ 5000 W).mono ?_
  rintro e w3 ⟨rfl, hb3⟩
  replace H := H.after hb3
  generalize hD : Ctl.set ⟨1000, 4000, 1073741824, 0, false, 0⟩ 5000 = D
  have HD := hid hD
  clear hD
  dsimp only
  rename_i hK
  refine hK _ _ ?_
  refine wpList_store_row (by rfl) 26 (.tmp 8) (.tmp 78) (by rfl) (w.heap.size + 1) D.cells (by rfl) (by rfl) 26 _ H.res infoC (by rfl) (ctl_one _) ?_
  replace H := H.rowRes D
  generalize w3.setRow (w.heap.size + 1) _ = W4 at H ⊢
  go_wp2_with fail
  exact ctl_ret rfl rfl H.res ⟨by rw [← HD.out]; rfl, H.below⟩
set_option maxHeartbeats 1000000 in
theorem alive_any (w : World) : Calls Try.prog 4 #[] w fun e w' => e = .returned (.bool true) ∧ Below w.heap.size w w' := by
  go_enter Try.func4, Try.ntmps4
  go_wp2_with fail
  refine (new_any 1000 w).mono ?_
  rintro e w1 ⟨rfl, hb1⟩
  rw [show Ctl.new 1000 = ⟨1000, 4000, 1073741824, 0, false, 0⟩ from rfl]
  unfold Ctl.v
  go_wp2_with fail
  have hS := heap_alloc_new w1 (.cells #[.int .i64 1000, .int .i64 4000, .int .i64 1073741824, .int .i64 0, .bool false, .int .u32 0] 26)
  have hB := below_alloc hb1 (.cells #[.int .i64 1000, .int .i64 4000, .int .i64 1073741824, .int .i64 0, .bool false, .int .u32 0] 26) (Nat.le_refl _)
  have hs : (w1.alloc (.cells #[.int .i64 1000, .int .i64 4000, .int .i64 1073741824, .int .i64 0, .bool false, .int .u32 0] 26)).heap.size = w1.heap.size + 1 := by simp
  generalize w1.alloc _ = W at hS hB hs ⊢
  refine (window_any first0 W).mono ?_
  rintro e w2 ⟨rfl, hb2⟩
  have hS2 : w2.heap[w1.heap.size]? = some (.cells first0.cells 26 (0, 0)) := (hb2.block _ (by omega)).trans hS
  have hB2 := below_after hB hb2 (by have := hb1.size; omega)
  obtain ⟨s0, s1, s2, s3, s4, s5⟩ := ctl_cells hS2
  unfold first0 at s0 s1 s2 s3 s4 s5
  simp only at s0 s1 s2 s3 s4 s5
  have hl2 := hb2.size
  rw [show first0.win = 4000 from rfl]
  go_wp2_with fail
  refine (acked_1000 w2).mono ?_
  rintro e w3 ⟨rfl, hb3⟩
  go_wp2_with fail
  refine (window_any _ w3).mono ?_
  rintro e w4 ⟨rfl, hb4⟩
  have hb34 := below_after hb3 hb4 (Nat.le_refl _)
  have hS4 : w4.heap[w1.heap.size]? = some (.cells first0.cells 26 (0, 0)) := (hb34.block _ (by omega)).trans hS2
  have hB4 := below_after hB2 hb34 (Nat.le_refl _)
  clear s0 s1 s2 s3 s4 s5
  obtain ⟨s0, s1, s2, s3, s4, s5⟩ := ctl_cells hS4
  unfold first0 at s0 s1 s2 s3 s4 s5
  simp only at s0 s1 s2 s3 s4 s5
  rw [show (Ctl.set first0 5000).win = 5000 from rfl]
  go_wp2_with fail
  refine (timeout_any first0 8000 1 w4 (by unfold first0; simp) (by omega)).mono ?_
  rintro e w5 ⟨rfl, hb5⟩
  go_wp2_with fail
  refine (threshold_any _ w5).mono ?_
  rintro e w6 ⟨rfl, hb6⟩
  rw [show (first0.timeout 8000 1).thr = 4000 from rfl]
  have hB6 := below_after hB4 (below_after hb5 hb6 (Nat.le_refl _)) (Nat.le_refl _)
  go_wp2_with fail
  go_ret
  exact ⟨rfl, hB6⟩
end Go.Proofs.Ytkecfdngnbeinaa
