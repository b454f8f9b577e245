/- Walks: types, codes and kinds. -/
import Derived.Test.YtlgkgdgmhcckfaaIcmpC
namespace Go.Proofs.Ytlgkgdgmhcckfaa
set_option linter.unusedVariables false
set_option linter.unusedSimpArgs false
open Go.RowKit

set_option maxHeartbeats 2000000 in
theorem types_any (k : Int) (six : Bool) (w : World) (h1 : 1 ≤ k) (h5 : k ≤ 5) :
    Calls Try.prog 39 #[.int .i64 k, .bool six] w fun e w' => e = .returned (.int .u8 ((typK k six).toNat : Int)) ∧ Below w.heap.size w w' := by
  have hk : k = 1 ∨ k = 2 ∨ k = 3 ∨ k = 4 ∨ k = 5 := by omega
  rcases hk with rfl | rfl | rfl | rfl | rfl <;> cases six
  all_goals
    go_enter Try.func39, Try.ntmps39
    go_wp2_with fail
    go_ret
    exact ⟨rfl, below2 w _ _⟩
set_option maxHeartbeats 1000000 in
theorem kind_any (t c : Nat) (six : Bool) (w : World) (ht : t ≤ 255) (hc : c ≤ 255) :
    Calls Try.prog 35 #[.int .u8 (t : Int), .int .u8 (c : Int), .bool six] w fun e w' => e = .returned (.int .i64 (kindS t c six)) ∧ w = w' := by
  obtain ⟨r, hr⟩ : ∃ r, r = kindS t c six := ⟨_, rfl⟩
  rw [← hr]
  have HR := hid hr
  clear hr
  obtain ⟨a, ha⟩ : ∃ a, a = IntKind.u8.wrap ((t : Int) - 128) := ⟨_, rfl⟩
  obtain ⟨b, hb⟩ : ∃ b, b = IntKind.u8.wrap ((t : Int) - 1) := ⟨_, rfl⟩
  have ha2 : (128 ≤ t ∧ a = t - 128) ∨ (t < 128 ∧ a = t + 128) := by
    rw [ha, IntKind.wrap_u8]; omega
  have hb2 : (1 ≤ t ∧ b = t - 1) ∨ (t < 1 ∧ b = t + 255) := by
    rw [hb, IntKind.wrap_u8]; omega
  have hA := ha.symm
  have hB := hb.symm
  clear ha hb
  cases six
  · clear ha2 hb2 hA hB
    go_enter Try.func35, Try.ntmps35
    go_wp2_with fail
    all_goals
      go_ret
      refine ⟨congrArg Ending.returned (congrArg (Value.int .i64) ?_), rfl⟩
      rw [HR.out]
      unfold kindS
      try simp at *
      try simp [*]
      try omega
  · by_cases h1 : a < 2
    · have h1d : decide (a < 2) = true := decide_eq_true h1
      go_enter Try.func35, Try.ntmps35
      go_wp2_with fail
      go_ret
      refine ⟨congrArg Ending.returned (congrArg (Value.int .i64) ?_), rfl⟩
      rw [HR.out]
      have : t = 128 ∨ t = 129 := by omega
      rcases this with rfl | rfl <;> rfl
    · have h1d : decide (a < 2) = false := decide_eq_false h1
      by_cases h2 : b < 3
      · have h2d : decide (b < 3) = true := decide_eq_true h2
        go_enter Try.func35, Try.ntmps35
        go_wp2_with fail
        go_ret
        refine ⟨congrArg Ending.returned (congrArg (Value.int .i64) ?_), rfl⟩
        rw [HR.out]
        have : t = 1 ∨ t = 2 ∨ t = 3 := by omega
        rcases this with rfl | rfl | rfl <;> rfl
      · have h2d : decide (b < 3) = false := decide_eq_false h2
        go_enter Try.func35, Try.ntmps35
        go_wp2_with fail
        go_ret
        refine ⟨congrArg Ending.returned (congrArg (Value.int .i64) ?_), rfl⟩
        rw [HR.out]
        unfold kindS
        rw [if_pos rfl, if_neg (by omega), if_neg (by omega), if_neg (by omega), if_neg (by omega), if_neg (by omega)]
set_option maxHeartbeats 1000000 in
theorem typed_any (m : Msg) (dv : Value) (six : Bool) (w : World) (hd : RB w dv m.data) (h1 : 1 ≤ m.kind) (h5 : m.kind ≤ 5) (hc : 0 ≤ m.code ∧ m.code ≤ 255) (hc0 : m.kind = 1 ∨ m.kind = 2 ∨ m.kind = 4 → m.code = 0) :
    Calls Try.prog 24 #[m.v dv, .bool six] w fun e w' => e = .returned (.tuple #[.int .u8 ((typS m six).toNat : Int), .int .u8 ((codS m six).toNat : Int)]) ∧ Below w.heap.size w w' := by
  obtain ⟨A, c, rfl, _⟩ := hd
  have hcv : ((UInt8.ofNat m.code.toNat).toNat : Int) = m.code := by simp; omega
  obtain ⟨a, ha⟩ : ∃ a, a = typS m six := ⟨_, rfl⟩
  obtain ⟨b, hb⟩ : ∃ b, b = codS m six := ⟨_, rfl⟩
  rw [← ha, ← hb]
  have hb2 : (six = false ∧ m.kind = 4 ∧ b = 4) ∨ (¬ (six = false ∧ m.kind = 4) ∧ (b.toNat : Int) = m.code) := by
    rw [hb]; unfold codS
    cases six
    · by_cases h4 : m.kind = 4
      · simp [h4]
      · right; simp [h4]; simpa using hcv
    · right; simp; simpa using hcv
  unfold typS at ha
  clear hb hcv
  obtain ⟨k, co, i, s, t, d⟩ := m
  simp only at *
  have hk : k = 1 ∨ k = 2 ∨ k = 3 ∨ k = 4 ∨ k = 5 := by omega
  rcases hk with rfl | rfl | rfl | rfl | rfl <;> cases six
  all_goals
    simp at hb2 hc0
    have HA := hid ha
    have HB := hid hb2
    have HC := hid hc0
    clear ha hb2 hc0
    go_enter Try.func24, Try.ntmps24
    unfold Msg.v Msg.cells
    go_wp2_with (first | (go_at_call 30; refine (echo_any _ _).mono ?_; rintro e w' ⟨rfl, rfl⟩))
  all_goals try (go_quiet (fail))
  all_goals try (go_wp2_with fail)
  all_goals
    go_ret2
    refine ⟨?_, by first | exact below_alloc (Below.refl _ _) _ (Nat.le_refl _) | exact below_drewN (below_alloc (Below.refl _ _) _ (Nat.le_refl _)) _⟩
    have hb := HB.out
    have hc := HC.out
    rw [HA.out]
    simp [typK]
    try simp at hb
    try simp [hb]
    try omega
end Go.Proofs.Ytlgkgdgmhcckfaa
