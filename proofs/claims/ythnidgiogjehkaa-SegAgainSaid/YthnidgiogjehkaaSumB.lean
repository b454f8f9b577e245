/- Walks: chksum.Sum. -/
import Derived.Test.YthnidgiogjehkaaSumA
import Derived.Test.YthnidgiogjehkaaU8
import Derived.BigQuiet

import Derived.Deep.QuietTactic
namespace Go.Proofs.Ythnidgiogjehkaa
set_option linter.unusedVariables false
set_option linter.unusedSimpArgs false
set_option maxRecDepth 20000
open Go.RowKit

set_option maxHeartbeats 400000 in
theorem sum_any (v : Value) (pp : List (List UInt8)) (w : World) (hr : RBB w v pp) (hb : btot pp ≤ 1000000) :
    Calls Try.prog 61 #[v] w fun e w' => e = .returned (.int .u16 (foldS (wtot pp))) ∧ ∃ n, w' = w.drewN n := by
  obtain ⟨A, c, vs, rfl, hrow, hel⟩ := hr
  obtain ⟨i0, hi0, hz0, hz1, hz2⟩ := info_parts info_u8
  have htop := hrow.top
  have hcap := hrow.cap
  go_enter Try.func61, Try.ntmps61
  go_wp2
  go_loopw [3, 8] (fun n i wr => ∃ k : Nat, k ≤ pp.length ∧ i = .int .i64 k ∧ (∃ m : Int, n = .int .u64 m ∧ 0 ≤ m ∧ Hid (m + wtot (pp.drop k) = wtot pp)) ∧ ∃ d, wr = w.drewN d) (fun _ i _ => pp.length - (intOf i).toNat)
  case atStart => exact ⟨0, Nat.zero_le _, rfl, ⟨0, rfl, by omega, by unfold Hid; simp⟩, 0, rfl⟩
  case round =>
    obtain ⟨k, hk, rfl, ⟨m, rfl, hm0, hm⟩, d, rfl⟩ := hrel
    by_cases hlt : k < pp.length
    · have hg : pp[k]? = some (pp.getD k []) := by simp [List.getD_eq_getElem?_getD, List.getElem?_eq_getElem hlt]
      have hwt := wtot_drop pp k hlt
      have hbt : (pp.getD k []).length ≤ 1000000 := by
        have h1 := btot_drop pp k hlt
        have h2 := btot_take pp k
        omega
      generalize pp.getD k [] = xs at hg hwt hbt
      obtain ⟨u, hu, A1, c1, rfl, hrow1⟩ := hel k xs hg
      obtain ⟨ad, rfl⟩ := hrow.addr (by rw [hrow.len]; omega)
      have hcell := hrow.get k _ hu
      have hrr := wtot_range (pp.drop (k + 1))
      have hwr := wtot_range pp
      have hm' : Hid (m + wsum xs + wtot (pp.drop (k + 1)) = wtot pp) := by have := hm.out; unfold Hid; omega
      clear hu hg hwt hm hel hrow
      go_wp2
      go_loopw [3, 5] (fun n b wr => ∃ (ys : List UInt8) (A2 : Option Addr) (c2 : Nat), b = .slice A2 ys.length c2 ∧ Row w 1 A2 ys.length c2 (by8 ys) ∧ ys.length ≤ 1000000 ∧
        (∃ q : Int, n = .int .u64 q ∧ 0 ≤ q ∧ Hid (q + wsum ys = m + wsum xs)) ∧ ∃ d, wr = w.drewN d) (fun _ b _ => lenV b)
      case atStart => exact ⟨xs, A1, c1, rfl, hrow1, hbt, ⟨m, rfl, hm0, rfl⟩, d, rfl⟩
      case round =>
        obtain ⟨ys, A2, c2, rfl, hrow2, hyl, ⟨q, rfl, hq0, hq⟩, d2, rfl⟩ := hrel
        have hc2 := hrow2.cap
        have ht2 := hrow2.top
        by_cases h1 : 1 < ys.length
        · obtain ⟨ad2, rfl⟩ := hrow2.addr (by rw [hrow2.len]; omega)
          have e0 := hrow2.get 0 _ (by8_get ys 0 (by omega))
          have e1 := hrow2.lit 1 _ (by omega) (by8_get ys 1 (by omega))
          rw [add_zero'] at e0
          have hcut := slice_from (P := Try.prog) 32 5 .i64 Try.underlying32 hi0 1 hz1 (some ad2) ys.length c2 2 h1
          have hrow3 := hrow2.drop (k := 2) h1
          have hw2 := wsum_drop2 ys h1
          generalize ys.getD 0 0 = x0 at e0 hw2
          generalize ys.getD 1 0 = x1 at e1 hw2
          have hl3 : (ys.drop 2).length = ys.length - 2 := by simp
          have hq3 : Hid (q + ((x0.toNat : Int) * 256 + x1.toNat) + wsum (ys.drop 2) = m + wsum xs) := by have := hq.out; unfold Hid; omega
          have hv3 := word_val q x0 x1 hq0 (by have := hq.out; have := hm'.out; have := wsum_range ys; omega)
          have HR : Hid (Row w 1 (if c2 = 2 then some ad2 else (some ad2 : Option Addr).map (·.add (2 * 1))) (ys.drop 2).length (c2 - 2) (by8 (ys.drop 2))) := by
            unfold Hid; rw [hl3, ← by8_drop]; exact hrow3
          have HV := hid hv3
          have HL := hid hl3
          clear hw2 hrow3 hrow2 hq hv3 hl3
          have b0 : 0 < ys.length := by omega
          have b1 : (1 : Int) < (ys.length : Int) := by omega
          go_wp2
          go_quiet (fail)
          go_wp2
          go_roundw
          case rel => exact ⟨ys.drop 2, _, _, by rw [HL.out]; rfl, HR.out, by rw [HL.out]; omega, ⟨_, by rw [HV.out], by omega, hq3⟩, _, rfl⟩
          case measure => simp [lenV]; omega
        · by_cases h2 : ys.length = 1
          · obtain ⟨ad2, rfl⟩ := hrow2.addr (by rw [hrow2.len]; omega)
            have e0 := hrow2.get 0 _ (by8_get ys 0 (by omega))
            rw [add_zero'] at e0
            have hw2 := wsum_one ys h2
            generalize ys.getD 0 0 = x0 at e0 hw2
            have r0 := x0.toNat_lt
            have hq3 : Hid (q + ((x0.toNat : Int) * 256) + wtot (pp.drop (k + 1)) = wtot pp) := by have := hq.out; have := hm'.out; unfold Hid; omega
            have hq4 : q + ((x0.toNat : Int) * 256) ≤ 9223372036854775807 := by have := hq3.out; omega
            have b0 : 0 < ys.length := by omega
            have b1 : decide (1 < ys.length) = false := by simpa using h1
            have b2 : ((ys.length : Int) == 1) = true := by rw [h2]; rfl
            clear hw2 hq hm' h2 hrow2
            go_wp2
            go_roundw
            case rel => exact ⟨k + 1, by omega, by go_num, ⟨_, rfl, by omega, hq3⟩, _, rfl⟩
            case measure => simp [intOf]; omega
          · have h0 : ys = [] := List.eq_nil_of_length_eq_zero (by omega)
            subst h0
            have hq3 : Hid (q + wtot (pp.drop (k + 1)) = wtot pp) := by have h3 := hq.out; have := hm'.out; simp only [wsum] at h3; unfold Hid; omega
            clear hq hm' h2 h1 hrow2
            simp only [List.length_nil]
            go_wp2
            go_roundw
            case rel => exact ⟨k + 1, by omega, by go_num, ⟨_, rfl, by omega, hq3⟩, _, rfl⟩
            case measure => simp [intOf]; omega
    · obtain rfl : k = pp.length := by omega
      have hm2 : m = wtot pp := by have := hm.out; simpa [wtot] using this
      subst hm2
      have hwr := wtot_range pp
      clear hm
      have hd : decide (pp.length < pp.length) = false := by simp
      go_wp2_with (go_at_call 74; refine (fold_any _ _ (by omega) (by omega)).mono ?_; rintro e w' ⟨rfl, rfl⟩)
      go_ret
      exact ⟨rfl, _, rfl⟩
end Go.Proofs.Ythnidgiogjehkaa
