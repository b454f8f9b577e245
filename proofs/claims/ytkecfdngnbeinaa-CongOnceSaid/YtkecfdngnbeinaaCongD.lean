/- The control: Idle. -/
import Derived.Test.YtkecfdngnbeinaaCongC
import Derived.Deep.RegionHeld3
namespace Go.Proofs.Ytkecfdngnbeinaa
set_option linter.unusedVariables false
set_option linter.unusedSimpArgs false
open Go.RowKit

def Ctl.idle (c : Ctl) : Ctl := c.set (min c.win c.first)
set_option maxHeartbeats 1000000 in
theorem idle_any (c : Ctl) (w : World) (hm : 0 ≤ c.mss ∧ c.mss ≤ 65535) :
    Calls Try.prog 14 #[c.v] w fun e w' => e = .returned c.idle.v ∧ Below w.heap.size w w' := by
  have H := two_new w c
  have hf := first_any c
  unfold Ctl.idle
  generalize c.first = f at *
  have HF := hid hf
  clear hf
  obtain ⟨m, wi, t, d, r, o⟩ := c
  simp only at hm ⊢
  have e1 : min wi f = if f < wi then f else wi := by split <;> omega
  rw [e1]
  clear e1
  have hx : ∃ x, (if f < wi then f else wi) = x := ⟨_, rfl⟩
  obtain ⟨x, hx⟩ := hx
  rw [hx]
  have HS := hid (set_any ⟨m, wi, t, d, r, o⟩ x)
  generalize Ctl.set ⟨m, wi, t, d, r, o⟩ x = D at HS ⊢
  rw [Ctl.v_def]
  go_enter Try.func14, Try.ntmps14
  go_wp2_with fail
  generalize (w.alloc _).alloc _ = W at H ⊢
  have K0 : W.drew.cell? ⟨w.heap.size, 0, none⟩ = some (.int .i64 m) ∧ W.drew.cell? ⟨w.heap.size, 1, none⟩ = some (.int .i64 wi) ∧ W.drew.cell? ⟨w.heap.size, 2, none⟩ = some (.int .i64 t) ∧ W.drew.cell? ⟨w.heap.size, 3, none⟩ = some (.int .i64 d) ∧ W.drew.cell? ⟨w.heap.size, 4, none⟩ = some (.bool r) ∧ W.drew.cell? ⟨w.heap.size, 5, none⟩ = some (.int .u32 o) := ctl_cells (H.drewN 1).own
  go_region_held3 (fun W' => W'.cell? ⟨w.heap.size, 0, none⟩ = some (.int .i64 m) ∧ W'.cell? ⟨w.heap.size, 1, none⟩ = some (.int .i64 wi) ∧ W'.cell? ⟨w.heap.size, 2, none⟩ = some (.int .i64 t) ∧ W'.cell? ⟨w.heap.size, 3, none⟩ = some (.int .i64 d) ∧ W'.cell? ⟨w.heap.size, 4, none⟩ = some (.bool r) ∧ W'.cell? ⟨w.heap.size, 5, none⟩ = some (.int .u32 o)) (with_reducible assumption)
    (first
      | (go_at_call 13; refine (HF.out _ hm).mono ?_; rintro e w3 ⟨rfl, hb3⟩; have H3 := (H.drewN 1).after hb3; have K3 : w3.cell? ⟨w.heap.size, 0, none⟩ = some (.int .i64 m) ∧ w3.cell? ⟨w.heap.size, 1, none⟩ = some (.int .i64 wi) ∧ w3.cell? ⟨w.heap.size, 2, none⟩ = some (.int .i64 t) ∧ w3.cell? ⟨w.heap.size, 3, none⟩ = some (.int .i64 d) ∧ w3.cell? ⟨w.heap.size, 4, none⟩ = some (.bool r) ∧ w3.cell? ⟨w.heap.size, 5, none⟩ = some (.int .u32 o) := ctl_cells H3.own)
      | (go_at_call 17; refine (HS.out _).mono ?_; rintro e w4 ⟨rfl, hb4⟩; rw [Ctl.v_def D]; have H4 := H3.after hb4; obtain ⟨r0, r1, r2, r3, r4, r5⟩ := ctl_cells H4.res; have zr := frozRow H4.res; have K4 : w4.cell? ⟨w.heap.size, 0, none⟩ = some (.int .i64 m) ∧ w4.cell? ⟨w.heap.size, 1, none⟩ = some (.int .i64 wi) ∧ w4.cell? ⟨w.heap.size, 2, none⟩ = some (.int .i64 t) ∧ w4.cell? ⟨w.heap.size, 3, none⟩ = some (.int .i64 d) ∧ w4.cell? ⟨w.heap.size, 4, none⟩ = some (.bool r) ∧ w4.cell? ⟨w.heap.size, 5, none⟩ = some (.int .u32 o) := ctl_cells H4.own; have K5 := ctl_cells (H4.putRes D).own; unfold put6 at K5)
      | fail)
  all_goals
    have H5 := H4.putRes D
    go_wp2_with fail
    exact ctl_ret rfl rfl H5.res ⟨rfl, H5.below⟩
end Go.Proofs.Ytkecfdngnbeinaa
