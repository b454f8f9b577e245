/- Walks: chksum.Check, the laws' long and alive. -/
import Derived.Test.YtmlcnmgfgmcplaaSumC
namespace Go.Proofs.Ytmlcnmgfgmcplaa
set_option linter.unusedVariables false
set_option linter.unusedSimpArgs false
open Go.RowKit

set_option maxHeartbeats 400000 in
theorem check_any (v : Value) (pp : List (List UInt8)) (w : World) (hr : RBB w v pp) (hb : btot pp ≤ 1000000) :
    Calls Try.prog 12 #[v] w fun e w' => e = .returned (.int .u16 (65535 - foldS (wtot pp))) ∧ ∃ n, w' = w.drewN n := by
  have h := foldS_range (wtot pp)
  have hs : IntKind.u16.signed = false := rfl
  have hx := xor_u16 (foldS (wtot pp)) h.1 h.2
  go_enter Try.func12, Try.ntmps12
  go_wp2_with (go_at_call 10; refine (sum_any _ pp _ hr hb).mono ?_; rintro e w' ⟨rfl, n, rfl⟩)
  go_ret
  exact ⟨rfl, n, rfl⟩

set_option maxHeartbeats 400000 in
theorem long_any (v : Value) (xs : List UInt8) (w : World) (hr : RB w v xs) :
    Calls Try.prog 9 #[v] w fun e w' => e = .returned (.bool (decide (3000 < xs.length))) ∧ w = w' := by
  obtain ⟨A, c, rfl, hrow⟩ := hr
  have htop := hrow.top
  have hcap := hrow.cap
  go_enter Try.func9, Try.ntmps9
  go_wp2
  go_ret
  exact ⟨by simp; omega, rfl⟩

set_option maxHeartbeats 400000 in
theorem alive_any (w : World) : Calls Try.prog 8 #[] w fun e w' => e = .returned (.bool true) ∧ Below w.heap.size w w' := by
  have hn : ∀ x : World, x = w → True := fun _ _ => trivial
  go_enter Try.func8, Try.ntmps8
  go_wp2_with fail
  refine (check_any _ [[0x45, 0, 0, 0x1c, 0, 0, 0, 0, 0x40, 1, 0, 0, 10, 0, 0, 1, 10, 0, 0, 2]] _ ?_ (by decide)).mono ?_
  · exact RBB.new1 _ _ _ _ _ (by simp) (RB.new w _ _ _ _ 20 rfl rfl (by omega) rfl)
  · rw [show (65535 - foldS (wtot [[0x45, 0, 0, 0x1c, 0, 0, 0, 0, 0x40, 1, 0, 0, 10, 0, 0, 1, 10, 0, 0, 2]])) = 26335 from by decide]
    rintro e w' ⟨rfl, n, rfl⟩
    go_wp2_with fail
    refine (turn_any _ _ _ _ (by omega) (by omega) (by omega) (by omega) (by omega) (by omega)).mono ?_
    rw [show (65535 - foldS (65535 - 26335 + (65535 - 16385) + 16129)) = 26591 from by decide]
    rintro e w' ⟨rfl, rfl⟩
    go_wp2_with fail
    go_ret
    exact ⟨rfl, below_drewN (below_alloc (below_alloc (Below.refl _ _) _ (Nat.le_refl _)) _ (Nat.le_refl _)) _⟩
/-- Any int brought into 0 .. h - 1, as the laws do. -/
theorem modBack (a : Int) (h : Int) (h0 : 0 < h) : ∃ j : Nat, (j : Int) < h ∧ (a.tmod h + h) % h = j ∧ -h < a.tmod h ∧ a.tmod h < h := by
  have h1 := Int.tmod_lt_of_pos a h0
  have h2 : -h < a.tmod h := by
    rcases Int.le_total 0 a with ha | ha
    · have := Int.tmod_nonneg h ha; omega
    · have h3 : (-a).tmod h < h := Int.tmod_lt_of_pos _ h0
      rw [Int.neg_tmod] at h3; omega
  have h3 := Int.emod_nonneg (a.tmod h + h) (by omega : h ≠ 0)
  have h4 := Int.emod_lt_of_pos (a.tmod h + h) h0
  exact ⟨((a.tmod h + h) % h).toNat, by omega, by omega, h2, h1⟩

end Go.Proofs.Ytmlcnmgfgmcplaa
