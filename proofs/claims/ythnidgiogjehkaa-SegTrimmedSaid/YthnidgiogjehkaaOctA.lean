/- Walks: bytes.Clone, octets.Get. -/
import Derived.Test.YthnidgiogjehkaaU8
import Derived.Test.YthnidgiogjehkaaOctP
namespace Go.Proofs.Ythnidgiogjehkaa
set_option linter.unusedVariables false
set_option linter.unusedSimpArgs false
set_option maxRecDepth 20000
open Go.RowKit

theorem own_empty (w : World) (base : Nat) (hb : base ≤ w.heap.size) : OB (w.alloc (.cells #[] 5)) base (.slice (some ⟨w.heap.size, 0, none⟩) 0 0) [] :=
  World.ownsRow_made w #[] 0 hb (by omega) (by simp)

set_option maxHeartbeats 400000 in
theorem clone_any (v : Value) (xs : List UInt8) (w : World) (hr : RB w v xs) (hl : xs.length ≤ 70368744177664) :
    Calls Try.prog 42 #[v] w fun e w' => ∃ A c, e = .returned (.slice A xs.length c) ∧ OB w' w.heap.size (.slice A xs.length c) xs ∧ Below w.heap.size w w' := by
  have hr0 := hr
  obtain ⟨A, c, rfl, hrow⟩ := hr
  have hnil := fun wx => Lib.run_eql_slice_nil (P := Try.prog) wx 32 5 A xs.length c 0 0 Try.underlying32
  rcases A with _ | ad
  · have hx : xs = [] := by
      rcases xs with _ | ⟨x, l⟩
      · rfl
      · obtain ⟨ad, h, _⟩ := hrow.at_ 0 _ rfl
        cases h
    subst hx
    have hnil0 := fun wx => Lib.run_eql_slice_nil (P := Try.prog) wx 32 5 none 0 c 0 0 Try.underlying32
    clear hnil
    go_enter Try.func42, Try.ntmps42
    go_wp2
    go_ret
    exact ⟨none, 0, rfl, OB.nil _ _, Below.refl _ _⟩
  · go_enter Try.func42, Try.ntmps42
    go_wp2_with (at_builtin; refine append_u8 (.tmp 5) (.tmp 6) w.heap.size [] xs xs rfl rfl rfl rfl rfl (own_empty w _ (Nat.le_refl _)) (hr0.alloc _) (by show 0 + xs.length ≤ _; omega) (by simp) ?_; intro A3 c3 W1 ho1 hb1 _ _)
    go_ret
    exact ⟨A3, c3, rfl, ho1, (below_alloc (Below.refl _ _) _ (Nat.le_refl _)).trans hb1⟩

set_option maxHeartbeats 800000 in
theorem get_any (v : Value) (xs : List UInt8) (w : World) (hr : RB w v xs) :
    Calls Try.prog 79 #[v] w fun e w' => e = .returned (.int .u64 (getS xs : Int)) ∧ w = w' := by
  obtain ⟨A, c, rfl, hrow⟩ := hr
  obtain ⟨i0, hi0, hz0, hz1, hz2⟩ := info_parts info_u8
  have htop := hrow.top
  have hcap := hrow.cap
  by_cases h8 : xs.length < 8
  · have HG := hid (getS_short xs (by omega))
    have hlt8 : (xs.length : Int) - 8 < 0 := by omega
    go_enter Try.func79, Try.ntmps79
    go_wp2
    go_loop [3, 13] (fun n i => ∃ k : Nat, k ≤ xs.length ∧ i = .int .i64 k ∧ (∃ q : Nat, n = .int .u64 q ∧ Hid (q = be (xs.take k)))) (fun _ i => xs.length - (intOf i).toNat)
    case atStart => exact ⟨0, Nat.zero_le _, rfl, 0, rfl, by unfold Hid; simp [be]⟩
    case round =>
      obtain ⟨k, hk, rfl, q, rfl, hq⟩ := hrel
      by_cases hlt : k < xs.length
      · obtain ⟨ad, rfl⟩ := hrow.addr (by rw [hrow.len]; omega)
        have e0 := hrow.get k _ (by8_get xs k hlt)
        have hs := be_take_succ xs k hlt
        generalize xs.getD k 0 = x at e0 hs
        have hx := x.toNat_lt
        have hq7 : q < 72057594037927936 := by rw [hq.out]; exact be_small7 _ (by rw [List.length_take]; omega)
        have hor := or_u64_low8 q x hq7
        have HS := hid hs
        clear hs
        go_wp2
        go_round
        case rel => exact ⟨k + 1, by omega, by go_num, q * 256 + x.toNat, rfl, by unfold Hid; rw [HS.out, ← hq.out]⟩
        case measure => simp [intOf]; omega
      · obtain rfl : k = xs.length := by omega
        have hd : decide (xs.length < xs.length) = false := by simp
        go_wp2
        go_ret
        refine ⟨?_, rfl⟩
        rw [HG.out]
        have := hq.out
        rw [List.take_length] at this
        rw [← this]
        rfl
  · have hcut := slice_fromZ (P := Try.prog) 32 5 .i64 Try.underlying32 hi0 1 hz1 A xs.length c ((xs.length : Int) - 8) (by omega) (by omega)
    have hn : ((xs.length : Int) - 8).toNat = xs.length - 8 := by omega
    rw [hn, Nat.mul_one] at hcut
    have hrow3 := hrow.drop (k := xs.length - 8) (by omega)
    rw [Nat.mul_one, by8_drop] at hrow3
    have hgs : getS xs = be (xs.drop (xs.length - 8)) := rfl
    have hyl : (xs.drop (xs.length - 8)).length = xs.length - (xs.length - 8) := by rw [List.length_drop]
    generalize hy : xs.drop (xs.length - 8) = ys at hrow3 hgs hyl
    rw [← hyl] at hrow3 hcut
    have hy8 : ys.length ≤ 8 := by omega
    have HG := hid hgs
    obtain ⟨A2, hA2⟩ : ∃ A2, A2 = (if c = xs.length - 8 then A else A.map (·.add (xs.length - 8))) := ⟨_, rfl⟩
    obtain ⟨c2, hc2⟩ : ∃ c2, c2 = c - (xs.length - 8) := ⟨_, rfl⟩
    rw [← hA2, ← hc2] at hrow3 hcut
    have hlt8 : 0 ≤ (xs.length : Int) - 8 := by omega
    have hcap3 := hrow3.cap
    have htop3 := hrow3.top
    clear hgs hyl hy hA2 hc2 hrow hn
    go_enter Try.func79, Try.ntmps79
    go_wp2
    go_loop [3, 13] (fun n i => ∃ k : Nat, k ≤ ys.length ∧ i = .int .i64 k ∧ (∃ q : Nat, n = .int .u64 q ∧ Hid (q = be (ys.take k)))) (fun _ i => ys.length - (intOf i).toNat)
    case atStart => exact ⟨0, Nat.zero_le _, rfl, 0, rfl, by unfold Hid; simp [be]⟩
    case round =>
      obtain ⟨k, hk, rfl, q, rfl, hq⟩ := hrel
      by_cases hlt : k < ys.length
      · obtain ⟨ad, rfl⟩ := hrow3.addr (by rw [hrow3.len]; omega)
        have e0 := hrow3.get k _ (by8_get ys k hlt)
        have hs := be_take_succ ys k hlt
        generalize ys.getD k 0 = x at e0 hs
        have hx := x.toNat_lt
        have hq7 : q < 72057594037927936 := by rw [hq.out]; exact be_small7 _ (by rw [List.length_take]; omega)
        have hor := or_u64_low8 q x hq7
        have HS := hid hs
        clear hs
        go_wp2
        go_round
        case rel => exact ⟨k + 1, by omega, by go_num, q * 256 + x.toNat, rfl, by unfold Hid; rw [HS.out, ← hq.out]⟩
        case measure => simp [intOf]; omega
      · obtain rfl : k = ys.length := by omega
        have hd : decide (ys.length < ys.length) = false := by simp
        go_wp2
        go_ret
        refine ⟨?_, rfl⟩
        rw [HG.out]
        have := hq.out
        rw [List.take_length] at this
        rw [← this]
        rfl
end Go.Proofs.Ythnidgiogjehkaa
