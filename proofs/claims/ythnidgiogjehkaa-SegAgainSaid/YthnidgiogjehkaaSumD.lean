/- Walks: chksum.Check, the laws' long and alive. -/
import Derived.Test.YthnidgiogjehkaaSumC
namespace Go.Proofs.Ythnidgiogjehkaa
set_option linter.unusedVariables false
set_option linter.unusedSimpArgs false
set_option maxRecDepth 20000
open Go.RowKit

set_option maxHeartbeats 400000 in
theorem check_any (v : Value) (pp : List (List UInt8)) (w : World) (hr : RBB w v pp) (hb : btot pp ≤ 1000000) :
    Calls Try.prog 54 #[v] w fun e w' => e = .returned (.int .u16 (65535 - foldS (wtot pp))) ∧ ∃ n, w' = w.drewN n := by
  have h := foldS_range (wtot pp)
  have hs : IntKind.u16.signed = false := rfl
  have hx := xor_u16 (foldS (wtot pp)) h.1 h.2
  go_enter Try.func54, Try.ntmps54
  go_wp2_with (go_at_call 61; refine (sum_any _ pp _ hr hb).mono ?_; rintro e w' ⟨rfl, n, rfl⟩)
  go_ret
  exact ⟨rfl, n, rfl⟩

/-- Any int brought into 0 .. h - 1, as the laws do. -/
theorem modBack (a : Int) (h : Int) (h0 : 0 < h) : ∃ j : Nat, (j : Int) < h ∧ (a.tmod h + h) % h = j ∧ -h < a.tmod h ∧ a.tmod h < h := by
  have h1 := Int.tmod_lt_of_pos a h0
  have h2 : -h < a.tmod h := by
    rcases Int.le_total 0 a with ha | ha
    · have := Int.tmod_nonneg h ha; omega
    · have h3 : (-a).tmod h < h := Int.tmod_lt_of_pos _ h0
      rw [Int.neg_tmod] at h3; omega
  have h3 := Int.emod_nonneg (a.tmod h + h) (by omega : h ≠ 0)
  have h4 := Int.emod_lt_of_pos (a.tmod h + h) h0
  exact ⟨((a.tmod h + h) % h).toNat, by omega, by omega, h2, h1⟩

end Go.Proofs.Ythnidgiogjehkaa
