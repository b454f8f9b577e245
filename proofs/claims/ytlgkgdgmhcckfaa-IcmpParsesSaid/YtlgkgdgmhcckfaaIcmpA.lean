/- Walks: ICMP's small functions. -/
import Derived.Test.YtlgkgdgmhcckfaaIcmpP
import Derived.Test.YtlgkgdgmhcckfaaRegT
import Derived.Test.YtlgkgdgmhcckfaaStruct
namespace Go.Proofs.Ytlgkgdgmhcckfaa
set_option linter.unusedVariables false
set_option linter.unusedSimpArgs false
open Go.RowKit

theorem echo_any (k : Int) (w : World) : Calls Try.prog 30 #[.int .i64 k] w fun e w' => e = .returned (.bool (decide (k = 1 ∨ k = 2))) ∧ w = w' := by
  go_enter Try.func30, Try.ntmps30
  go_wp2
  all_goals
    go_ret
    exact ⟨congrArg Ending.returned (congrArg Value.bool (by by_cases h1 : k = 1 <;> by_cases h2 : k = 2 <;> simp [*])), rfl⟩
theorem coded_any (k : Int) (w : World) : Calls Try.prog 31 #[.int .i64 k] w fun e w' => e = .returned (.bool (decide (k = 3 ∨ k = 5))) ∧ w = w' := by
  go_enter Try.func31, Try.ntmps31
  go_wp2
  all_goals
    go_ret
    exact ⟨congrArg Ending.returned (congrArg Value.bool (by by_cases h1 : k = 3 <;> by_cases h2 : k = 5 <;> simp [*])), rfl⟩
theorem msg_cells {w : World} {b : Nat} {m : Msg} {dv : Value} {T : TypeId} (h : w.heap[b]? = some (.cells (m.cells dv) T (0, 0))) :
    w.cell? ⟨b, 0, none⟩ = some (.int .i64 m.kind) ∧ w.cell? ⟨b, 1, none⟩ = some (.int .u8 m.code) ∧ w.cell? ⟨b, 2, none⟩ = some (.int .u16 m.id) ∧ w.cell? ⟨b, 3, none⟩ = some (.int .u16 m.seq) ∧ w.cell? ⟨b, 4, none⟩ = some (.int .u32 m.mtu) ∧ w.cell? ⟨b, 5, none⟩ = some dv :=
  ⟨cellRow h 0, cellRow h 1, cellRow h 2, cellRow h 3, cellRow h 4, cellRow h 5⟩
set_option maxHeartbeats 1000000 in
theorem may_any (m : Msg) (dv : Value) (six : Bool) (w : World) (hd : RB w dv m.data) :
    Calls Try.prog 13 #[m.v dv, .bool six] w fun e w' => e = .returned (.bool (mayS m six)) ∧ Below w.heap.size w w' := by
  obtain ⟨A, c, rfl, hr⟩ := hd
  have htop := hr.top
  have hcap := hr.cap
  clear hr
  obtain ⟨k, co, i, s, u, d⟩ := m
  unfold Msg.v Msg.cells mayS
  simp only at htop hcap ⊢
  go_enter Try.func13, Try.ntmps13
  go_wp2_with (first | (go_at_call 30; refine (echo_any _ _).mono ?_; rintro e w' ⟨rfl, rfl⟩) | (go_at_call 31; refine (coded_any _ _).mono ?_; rintro e w' ⟨rfl, rfl⟩))
  all_goals
    go_ret
    refine ⟨congrArg Ending.returned (congrArg Value.bool ?_), below_alloc (Below.refl _ _) _ (Nat.le_refl _)⟩
    rw [Bool.eq_iff_iff]
    clear htop hcap
    cases six <;> simp at * <;> omega
end Go.Proofs.Ytlgkgdgmhcckfaa
