/- Walks of the laws ChksumSums, ChksumTurns. -/
import Derived.Test.YtmlcnmgfgmcplaaSumD
namespace Go.Proofs.Ytmlcnmgfgmcplaa
set_option linter.unusedVariables false
set_option linter.unusedSimpArgs false
open Go.RowKit

set_option maxHeartbeats 400000 in
theorem lawTurns_any (a b c : Int) (w : World) (a0 : 0 ≤ a) (a1 : a ≤ 65535) (b0 : 0 ≤ b) (b1 : b ≤ 65535) (c0 : 0 ≤ c) (c1 : c ≤ 65535) :
    Calls Try.prog 4 #[.int .u16 a, .int .u16 b, .int .u16 c] w fun e w' => e = .returned (.bool true) ∧ Below w.heap.size w w' := by
  go_enter Try.func4, Try.ntmps4
  go_wp2_with fail
  refine (turn_any _ _ _ _ a0 a1 b0 b1 c0 c1).mono ?_
  rintro e w' ⟨rfl, rfl⟩
  go_wp2_with fail
  refine (rturn_any _ _ _ _ a0 a1 b0 b1 c0 c1).mono ?_
  rintro e w' ⟨rfl, rfl⟩
  go_wp2_with fail
  refine (alive_any _).mono ?_
  rintro e w' ⟨rfl, hb⟩
  go_wp2_with fail
  go_ret
  exact ⟨rfl, hb⟩

set_option maxHeartbeats 800000 in
theorem lawSums_any (v : Value) (pp : List (List UInt8)) (w : World) (hr : RBB w v pp) :
    Calls Try.prog 3 #[v] w fun e w' => e = .returned (.bool true) ∧ Below w.heap.size w w' := by
  have hr0 := hr
  obtain ⟨A, c, vs, rfl, hrow, hel⟩ := hr
  have htop := hrow.top
  have hcap := hrow.cap
  go_enter Try.func3, Try.ntmps3
  by_cases h30 : 30 < pp.length
  · have hd : decide ((30 : Int) < (pp.length : Int)) = true := by simp; omega
    go_wp2_with fail
    refine (alive_any _).mono ?_
    rintro e w' ⟨rfl, hb⟩
    go_wp2_with fail
    go_ret
    exact ⟨rfl, hb⟩
  · have hd : decide ((30 : Int) < (pp.length : Int)) = false := by simp; omega
    go_wp2_with fail
    go_loop [11] (fun i => ∃ k : Nat, k ≤ pp.length ∧ i = .int .i64 k ∧ Hid (btot (pp.take k) ≤ 3000 * k)) (fun i => pp.length - (intOf i).toNat)
    case atStart => exact ⟨0, Nat.zero_le _, rfl, by unfold Hid; simp [btot]⟩
    case round =>
      obtain ⟨k, hk, rfl, hbk⟩ := hrel
      by_cases hlt : k < pp.length
      · have hg : pp[k]? = some (pp.getD k []) := by simp [List.getD_eq_getElem?_getD, List.getElem?_eq_getElem hlt]
        have hts := btot_take_succ pp k hlt
        generalize pp.getD k [] = xs at hg hts
        obtain ⟨u, hu, hru⟩ := hel k xs hg
        obtain ⟨ad, rfl⟩ := hrow.addr (by rw [hrow.len]; omega)
        have hcell := hrow.get k _ hu
        have HT := hid hts
        clear hts hu hg
        by_cases h3 : 3000 < xs.length
        · have hd3 : decide (3000 < xs.length) = true := by simpa using h3
          go_wp2_with (go_at_call 9; refine (long_any _ xs _ hru).mono ?_; rintro e w' ⟨rfl, rfl⟩)
          refine (alive_any _).mono ?_
          rintro e w' ⟨rfl, hb⟩
          go_wp2_with fail
          go_ret
          exact ⟨rfl, hb⟩
        · have hd3 : decide (3000 < xs.length) = false := by simpa using h3
          go_wp2_with (go_at_call 9; refine (long_any _ xs _ hru).mono ?_; rintro e w' ⟨rfl, rfl⟩)
          go_round
          case rel => exact ⟨k + 1, by omega, by go_num, by have h1 := HT.out; have h2 := hbk.out; unfold Hid; omega⟩
          case measure => simp [intOf]; omega
      · obtain rfl : k = pp.length := by omega
        have hb : btot pp ≤ 1000000 := by have h := hbk.out; rw [List.take_length] at h; omega
        have HB := hid hb
        clear hbk hb
        have hf := foldS_range (wtot pp)
        have hs : IntKind.u16.signed = false := rfl
        have hx := xor_u16 (foldS (wtot pp)) hf.1 hf.2
        have hdd : decide (pp.length < pp.length) = false := by simp
        go_wp2_with fail
        refine (sum_any _ pp _ hr0 HB.out).mono ?_
        rintro e w1 ⟨rfl, n1, rfl⟩
        go_wp2_with fail
        refine (rsum_any _ pp _ (hr0.drewN n1) HB.out).mono ?_
        rintro e w2 ⟨rfl, rfl⟩
        go_wp2_with fail
        refine (check_any _ pp _ (hr0.drewN n1) HB.out).mono ?_
        rintro e w3 ⟨rfl, n3, rfl⟩
        go_wp2_with fail
        refine (rsum_any _ pp _ (hr0.drewN _) HB.out).mono ?_
        rintro e w4 ⟨rfl, rfl⟩
        go_wp2_with fail
        refine (alive_any _).mono ?_
        rintro e w5 ⟨rfl, hb5⟩
        go_wp2_with fail
        go_ret
        exact ⟨rfl, below_after (below_drewN (Below.refl _ _) _) hb5 (Nat.le_refl _)⟩
end Go.Proofs.Ytmlcnmgfgmcplaa
