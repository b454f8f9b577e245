/- Boards that nobody made: walks of what they answer. -/
import Derived.Test.YtblkfpipmdfmkaaOps
import Derived.Test.YtblkfpipmdfmkaaBlk
namespace Go.Proofs.Ytblkfpipmdfmkaa
set_option linter.unusedVariables false
set_option linter.unusedSimpArgs false
open Go.RowKit

/-- A nil board, or one that New did not give. -/
def NoB (w : World) (v : Value) : Prop := v = .pointer none ∨ ∃ g, v = .pointer (some ⟨g, 0, none⟩) ∧ w.cell? ⟨g, 0, none⟩ = some (.bool false)
theorem NoB.below {w w' : World} {v : Value} (h : NoB w v) (hb : Below w.heap.size w w') : NoB w' v := by
  rcases h with h | ⟨g, h, hc⟩
  · exact .inl h
  · exact .inr ⟨g, h, keep_cell hb hc (World.block_lt_of_cell? w _ hc)⟩
theorem ok_no (v : Value) (w : World) (h : NoB w v) : Calls Try.prog 43 #[v] w fun e w' => e = .returned (.bool false) ∧ w = w' := by
  rcases h with rfl | ⟨g, rfl, hc⟩
  all_goals
    go_enter Try.func43, Try.ntmps43
    go_wp2
    go_ret
    exact ⟨rfl, rfl⟩
theorem add_no (v u : Value) (a : Int) (w : World) (h : NoB w v) : Calls Try.prog 30 #[v, .int .u32 a, u] w fun e w' => e = .returned (.int .i64 0) ∧ w = w' := by
  have HO := hid (ok_no v w h)
  go_enter Try.func30, Try.ntmps30
  go_wp2_with fail
  (with_reducible refine Calls.mono HO.out ?_)
  rintro e w' ⟨rfl, rfl⟩
  go_wp2_with fail
  go_ret
  exact ⟨rfl, rfl⟩
theorem advance_no (v : Value) (a : Int) (w : World) (h : NoB w v) : Calls Try.prog 32 #[v, .int .u32 a] w fun e w' => e = .returned (.bool false) ∧ w = w' := by
  have HO := hid (ok_no v w h)
  go_enter Try.func32, Try.ntmps32
  go_wp2_with fail
  (with_reducible refine Calls.mono HO.out ?_)
  rintro e w' ⟨rfl, rfl⟩
  go_wp2_with fail
  go_ret
  exact ⟨rfl, rfl⟩
theorem has_no (v : Value) (a : Int) (w : World) (h : NoB w v) : Calls Try.prog 29 #[v, .int .u32 a] w fun e w' => e = .returned (.bool false) ∧ w = w' := by
  have HO := hid (ok_no v w h)
  go_enter Try.func29, Try.ntmps29
  go_wp2_with fail
  (with_reducible refine Calls.mono HO.out ?_)
  rintro e w' ⟨rfl, rfl⟩
  go_wp2_with fail
  go_ret
  exact ⟨rfl, rfl⟩
theorem bytes_no (v : Value) (w : World) (h : NoB w v) : Calls Try.prog 35 #[v] w fun e w' => e = .returned (.int .i64 0) ∧ w = w' := by
  have HO := hid (ok_no v w h)
  go_enter Try.func35, Try.ntmps35
  go_wp2_with fail
  (with_reducible refine Calls.mono HO.out ?_)
  rintro e w' ⟨rfl, rfl⟩
  go_wp2_with fail
  go_ret
  exact ⟨rfl, rfl⟩
theorem blocks_no (v : Value) (w : World) (h : NoB w v) : Calls Try.prog 31 #[v] w fun e w' => e = .returned (.slice none 0 0) ∧ w = w' := by
  have HO := hid (ok_no v w h)
  go_enter Try.func31, Try.ntmps31
  go_wp2_with fail
  (with_reducible refine Calls.mono HO.out ?_)
  rintro e w' ⟨rfl, rfl⟩
  go_wp2_with fail
  go_ret
  exact ⟨rfl, rfl⟩
theorem first_no (v : Value) (w : World) (h : NoB w v) : Calls Try.prog 33 #[v] w fun e w' => e = .returned (.int .u32 0) ∧ w = w' := by
  have HO := hid (ok_no v w h)
  go_enter Try.func33, Try.ntmps33
  go_wp2_with fail
  (with_reducible refine Calls.mono HO.out ?_)
  rintro e w' ⟨rfl, rfl⟩
  go_wp2_with fail
  go_ret
  exact ⟨rfl, rfl⟩
end Go.Proofs.Ytblkfpipmdfmkaa
