/- Walks: the reference's add, Sum and Turn. -/
import Derived.Test.YthnidgiogjehkaaSumB
namespace Go.Proofs.Ythnidgiogjehkaa
set_option linter.unusedVariables false
set_option linter.unusedSimpArgs false
set_option maxRecDepth 20000
open Go.RowKit

set_option maxHeartbeats 400000 in
theorem radd_any (a b : Int) (w : World) (a0 : 0 ≤ a) (a1 : a ≤ 65535) (b0 : 0 ≤ b) (b1 : b ≤ 65535) :
    Calls Try.prog 69 #[.int .u16 a, .int .u16 b] w fun e w' => e = .returned (.int .u16 (foldS (a + b))) ∧ w = w' := by
  by_cases h : 65535 < a + b
  · have hf := foldS_over a0 a1 b0 b1 h
    have hd : decide (65535 < a + b) = true := by simpa using h
    have HF := hid hf
    clear hf
    go_enter Try.func69, Try.ntmps69
    go_wp2
    go_ret
    refine ⟨?_, rfl⟩
    rw [HF.out]
    exact ret_int (by omega)
  · have hf := foldS_small (n := a + b) (by omega) (by omega)
    have hd : decide (65535 < a + b) = false := by simpa using h
    have HF := hid hf
    clear hf
    go_enter Try.func69, Try.ntmps69
    go_wp2
    go_ret
    refine ⟨?_, rfl⟩
    rw [HF.out]
    rfl

set_option maxHeartbeats 800000 in
theorem rsum_any (v : Value) (pp : List (List UInt8)) (w : World) (hr : RBB w v pp) (hb : btot pp ≤ 1000000) :
    Calls Try.prog 43 #[v] w fun e w' => e = .returned (.int .u16 (foldS (wtot pp))) ∧ w = w' := by
  obtain ⟨A, c, vs, rfl, hrow, hel⟩ := hr
  have htop := hrow.top
  have hcap := hrow.cap
  go_enter Try.func43, Try.ntmps43
  go_wp2
  go_loop [3, 4] (fun n i => ∃ k : Nat, k ≤ pp.length ∧ i = .int .i64 k ∧ (∃ m : Int, n = .int .u16 m ∧ 0 ≤ m ∧ m ≤ 65535 ∧ Hid (foldS (m + wtot (pp.drop k)) = foldS (wtot pp)))) (fun _ i => pp.length - (intOf i).toNat)
  case atStart => exact ⟨0, Nat.zero_le _, rfl, 0, rfl, by omega, by omega, by unfold Hid; simp⟩
  case round =>
    obtain ⟨k, hk, rfl, m, rfl, hm0, hm1, hm⟩ := hrel
    by_cases hlt : k < pp.length
    · have hg : pp[k]? = some (pp.getD k []) := by simp [List.getD_eq_getElem?_getD, List.getElem?_eq_getElem hlt]
      have hwt := wtot_drop pp k hlt
      have hbt : (pp.getD k []).length ≤ 1000000 := by
        have h1 := btot_drop pp k hlt
        have h2 := btot_take pp k
        omega
      generalize pp.getD k [] = xs at hg hwt hbt
      obtain ⟨u, hu, A1, c1, rfl, hrow1⟩ := hel k xs hg
      obtain ⟨ad, rfl⟩ := hrow.addr (by rw [hrow.len]; omega)
      have hcell := hrow.get k _ hu
      have hrr := wtot_range (pp.drop (k + 1))
      have hwr := wsum_range xs
      have HM : Hid (foldS (m + wsum xs + wtot (pp.drop (k + 1))) = foldS (wtot pp)) := by have := hm.out; unfold Hid; rw [hwt, ← Int.add_assoc] at this; exact this
      have ht1 := hrow1.top
      have hc1 := hrow1.cap
      clear hu hg hwt hm hel hrow
      go_wp2
      go_loop [3, 6] (fun n j => ∃ h : Nat, h ≤ xs.length + 1 ∧ j = .int .i64 h ∧ (∃ q : Int, n = .int .u16 q ∧ 0 ≤ q ∧ q ≤ 65535 ∧ Hid (foldS (q + wsum (xs.drop h)) = foldS (m + wsum xs)))) (fun _ j => xs.length + 1 - (intOf j).toNat)
      case atStart => exact ⟨0, Nat.zero_le _, rfl, m, rfl, hm0, hm1, by unfold Hid; simp⟩
      case round =>
        obtain ⟨h, hh, rfl, q, rfl, hq0, hq1, hq⟩ := hrel
        by_cases h1 : h < xs.length
        · obtain ⟨ad1, rfl⟩ := hrow1.addr (by rw [hrow1.len]; omega)
          have e0 := hrow1.get h _ (by8_get xs h h1)
          by_cases h2 : h + 1 < xs.length
          · have e1 := hrow1.lit (h + 1) _ (by omega) (by8_get xs (h + 1) h2)
            have hw := wsum_at xs h h2
            generalize xs.getD h 0 = x0 at e0 hw
            generalize xs.getD (h + 1) 0 = x1 at e1 hw
            have hs2 := wsum_range (xs.drop (h + 2))
            have r0 := x0.toNat_lt
            have r1 := x1.toNat_lt
            have hfr := foldS_range (q + ((x0.toNat : Int) * 256 + x1.toNat))
            have HQ : Hid (foldS (foldS (q + ((x0.toNat : Int) * 256 + x1.toNat)) + wsum (xs.drop (h + 2))) = foldS (m + wsum xs)) := by
              unfold Hid; rw [foldS_keep hq0 (by omega) hs2.1, ← hw]; exact hq.out
            clear hw hq hrow1
            go_wp2_with (go_at_call 69; refine (radd_any _ _ _ (by omega) (by omega) (by omega) (by omega)).mono ?_; rintro e w' ⟨rfl, rfl⟩)
            go_round
            case rel => exact ⟨h + 2, by omega, by go_num, _, rfl, hfr.1, hfr.2, HQ⟩
            case measure => simp [intOf]; omega
          · have hw := wsum_last xs h (by omega)
            generalize xs.getD h 0 = x0 at e0 hw
            have r0 := x0.toNat_lt
            have hfr := foldS_range (q + ((x0.toNat : Int) * 256))
            have HQ : Hid (foldS (foldS (q + ((x0.toNat : Int) * 256)) + wsum (xs.drop (h + 2))) = foldS (m + wsum xs)) := by
              have h0 : xs.drop (h + 2) = [] := List.drop_eq_nil_of_le (by omega)
              unfold Hid; rw [h0]; simp only [wsum]; rw [foldS_keep hq0 (by omega) (by omega), Int.add_zero, ← hw]; exact hq.out
            have hd : decide ((h : Int) + 1 < (xs.length : Int)) = false := by simp; omega
            have hd2 : decide (h + 1 < xs.length) = false := by simp; omega
            clear hw hq hrow1
            go_wp2_with (go_at_call 69; refine (radd_any _ _ _ (by omega) (by omega) (by omega) (by omega)).mono ?_; rintro e w' ⟨rfl, rfl⟩)
            go_round
            case rel => exact ⟨h + 2, by omega, by go_num, _, rfl, hfr.1, hfr.2, HQ⟩
            case measure => simp [intOf]; omega
        · have h0 : xs.drop h = [] := List.drop_eq_nil_of_le (by omega)
          have HQ : Hid (foldS (q + wtot (pp.drop (k + 1))) = foldS (wtot pp)) := by
            have h3 := hq.out
            rw [h0] at h3; simp only [wsum, Int.add_zero] at h3
            unfold Hid; rw [← HM.out, ← foldS_add (a := m + wsum xs) (by omega) hrr.1, ← h3, foldS_add hq0 hrr.1]
          clear hq HM h0
          go_wp2
          go_round
          case rel => exact ⟨k + 1, by omega, by go_num, _, rfl, hq0, hq1, HQ⟩
          case measure => simp [intOf]; omega
    · obtain rfl : k = pp.length := by omega
      have hm2 : foldS (wtot pp) = m := by
        have := hm.out
        rw [List.drop_length, wtot_nil, Int.add_zero, foldS_small hm0 hm1] at this
        exact this.symm
      have HM := hid hm2
      clear hm hm2
      go_wp2
      go_ret
      refine ⟨?_, rfl⟩
      rw [HM.out]
      rfl
end Go.Proofs.Ythnidgiogjehkaa
