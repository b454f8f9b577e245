/- Boards that nobody made: walks of what they answer. -/
import Derived.Test.YtkflolbphiffbaaOps
import Derived.Test.YtkflolbphiffbaaBlk
namespace Go.Proofs.Ytkflolbphiffbaa
set_option linter.unusedVariables false
set_option linter.unusedSimpArgs false
open Go.RowKit

/-- A nil board, or one that New did not give. -/
def NoB (w : World) (v : Value) : Prop := v = .pointer none ∨ ∃ g, v = .pointer (some ⟨g, 0, none⟩) ∧ w.cell? ⟨g, 0, none⟩ = some (.bool false)
theorem NoB.below {w w' : World} {v : Value} (h : NoB w v) (hb : Below w.heap.size w w') : NoB w' v := by
  rcases h with h | ⟨g, h, hc⟩
  · exact .inl h
  · exact .inr ⟨g, h, keep_cell hb hc (World.block_lt_of_cell? w _ hc)⟩
theorem ok_no (v : Value) (w : World) (h : NoB w v) : Calls Try.prog 18 #[v] w fun e w' => e = .returned (.bool false) ∧ w = w' := by
  rcases h with rfl | ⟨g, rfl, hc⟩
  all_goals
    go_enter Try.func18, Try.ntmps18
    go_wp2
    go_ret
    exact ⟨rfl, rfl⟩
theorem reset_no (v : Value) (w : World) (h : NoB w v) : Calls Try.prog 17 #[v] w fun e w' => e = .returned (.tuple #[]) ∧ w = w' := by
  have HO := hid (ok_no v w h)
  go_enter Try.func17, Try.ntmps17
  go_wp2_with fail
  (with_reducible refine Calls.mono HO.out ?_)
  rintro e w' ⟨rfl, rfl⟩
  go_wp2_with fail
  go_end0
  exact ⟨rfl, rfl⟩
theorem hole_no (v : Value) (a b m : Int) (w : World) (h : NoB w v) : Calls Try.prog 11 #[v, .int .u32 a, .int .u32 b, .int .i64 m] w fun e w' => e = .returned (.tuple #[.int .u32 0, .int .i64 0, .bool false]) ∧ w = w' := by
  have HO := hid (ok_no v w h)
  go_enter Try.func11, Try.ntmps11
  go_wp2_with fail
  (with_reducible refine Calls.mono HO.out ?_)
  rintro e w' ⟨rfl, rfl⟩
  go_wp2_with fail
  go_ret3
  exact ⟨rfl, rfl⟩
theorem add_no (v u : Value) (a : Int) (w : World) (h : NoB w v) : Calls Try.prog 10 #[v, .int .u32 a, u] w fun e w' => e = .returned (.int .i64 0) ∧ w = w' := by
  have HO := hid (ok_no v w h)
  go_enter Try.func10, Try.ntmps10
  go_wp2_with fail
  (with_reducible refine Calls.mono HO.out ?_)
  rintro e w' ⟨rfl, rfl⟩
  go_wp2_with fail
  go_ret
  exact ⟨rfl, rfl⟩
theorem advance_no (v : Value) (a : Int) (w : World) (h : NoB w v) : Calls Try.prog 14 #[v, .int .u32 a] w fun e w' => e = .returned (.bool false) ∧ w = w' := by
  have HO := hid (ok_no v w h)
  go_enter Try.func14, Try.ntmps14
  go_wp2_with fail
  (with_reducible refine Calls.mono HO.out ?_)
  rintro e w' ⟨rfl, rfl⟩
  go_wp2_with fail
  go_ret
  exact ⟨rfl, rfl⟩
theorem has_no (v : Value) (a : Int) (w : World) (h : NoB w v) : Calls Try.prog 13 #[v, .int .u32 a] w fun e w' => e = .returned (.bool false) ∧ w = w' := by
  have HO := hid (ok_no v w h)
  go_enter Try.func13, Try.ntmps13
  go_wp2_with fail
  (with_reducible refine Calls.mono HO.out ?_)
  rintro e w' ⟨rfl, rfl⟩
  go_wp2_with fail
  go_ret
  exact ⟨rfl, rfl⟩
theorem bytes_no (v : Value) (w : World) (h : NoB w v) : Calls Try.prog 16 #[v] w fun e w' => e = .returned (.int .i64 0) ∧ w = w' := by
  have HO := hid (ok_no v w h)
  go_enter Try.func16, Try.ntmps16
  go_wp2_with fail
  (with_reducible refine Calls.mono HO.out ?_)
  rintro e w' ⟨rfl, rfl⟩
  go_wp2_with fail
  go_ret
  exact ⟨rfl, rfl⟩
theorem blocks_no (v : Value) (w : World) (h : NoB w v) : Calls Try.prog 12 #[v] w fun e w' => e = .returned (.slice none 0 0) ∧ w = w' := by
  have HO := hid (ok_no v w h)
  go_enter Try.func12, Try.ntmps12
  go_wp2_with fail
  (with_reducible refine Calls.mono HO.out ?_)
  rintro e w' ⟨rfl, rfl⟩
  go_wp2_with fail
  go_ret
  exact ⟨rfl, rfl⟩
theorem first_no (v : Value) (w : World) (h : NoB w v) : Calls Try.prog 15 #[v] w fun e w' => e = .returned (.int .u32 0) ∧ w = w' := by
  have HO := hid (ok_no v w h)
  go_enter Try.func15, Try.ntmps15
  go_wp2_with fail
  (with_reducible refine Calls.mono HO.out ?_)
  rintro e w' ⟨rfl, rfl⟩
  go_wp2_with fail
  go_ret
  exact ⟨rfl, rfl⟩
end Go.Proofs.Ytkflolbphiffbaa
