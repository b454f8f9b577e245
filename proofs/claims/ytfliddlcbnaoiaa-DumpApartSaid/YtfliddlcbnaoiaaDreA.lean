/- Walks of the document's ten, data, Flags. -/
import Derived.Test.YtfliddlcbnaoiaaLinD
import Derived.Test.YtfliddlcbnaoiaaEqual
namespace Go.Proofs.Ytfliddlcbnaoiaa
set_option linter.unusedVariables false
set_option linter.unusedSimpArgs false
open Go.RowKit

theorem rten_any : ∀ (n : Nat) (w : World), n < 18446744073709551616 → Calls Try.prog 24 #[.int .u64 (n : Int)] w fun e w' => e = .returned (.string (strOf (tenS n))) ∧ Below w.heap.size w w' := by
  intro n
  induction n using Nat.strongRecOn with
  | ind n ih =>
    intro w hn
    by_cases h : n < 10
    · have t1 : decide ((n : Int) < 10) = true := decide_eq_true (by omega)
      have t2 : decide (n < 10) = true := decide_eq_true h
      have HT := hid (tenS_small n h)
      obtain ⟨D, hD⟩ : ∃ D, UInt8.ofNat (48 + n) = D := ⟨_, rfl⟩
      have g1 : (48 : Int) + (n : Int) = (D.toNat : Int) := by rw [← hD, digit_val n h]; omega
      have g2 : (D.toNat : Int) % 256 = (D.toNat : Int) := by have := D.toNat_lt; omega
      have g3 : (D.toNat : Int) % 18446744073709551616 = (D.toNat : Int) := by have := D.toNat_lt; omega
      have HD := hid hD
      have hcv := conv_str (show RB (w.alloc (.cells #[.int .u8 (D.toNat : Int)] 5)) (.slice (some ⟨w.heap.size, 0, none⟩) 1 1) [D] from RB.inBlock (nw1 w _) rfl (Nat.le_refl _) (by decide) (fun j v hv => by rw [Nat.zero_add, List.getElem?_toArray]; exact hv))
      clear ih h hD hn
      go_enter Try.func24, Try.ntmps24
      go_wp2_with fail
      go_ret
      exact ⟨by rw [HT.out, HD.out]; rfl, bl1 _ _⟩
    · have HT := hid (tenS_big n h)
      have HI1 := hid (fun W => ih (n / 10) (by omega) W (by omega))
      have HI2 := hid (fun W => ih (n % 10) (by omega) W (by omega))
      have t1 : decide ((n : Int) < 10) = false := decide_eq_false (by omega)
      have t2 : decide (n < 10) = false := decide_eq_false h
      have HS := hid (tenS_small (n % 10) (by omega))
      have HL1 := hid (tenS_20 (n / 10) (by omega))
      have HL2 := hid (tenS_20 (n % 10) (by omega))
      obtain ⟨dg, hdg⟩ : ∃ dg, n % 10 = dg := ⟨_, rfl⟩
      obtain ⟨dv, hdv⟩ : ∃ dv, n / 10 = dv := ⟨_, rfl⟩
      have g1 : (n : Int) % 10 = (dg : Int) := by omega
      have g2 : (n : Int).tmod 10 = (dg : Int) := by rw [Int.tmod_eq_emod_of_nonneg (by omega)]; omega
      have g3 : (n : Int).tdiv 10 = (dv : Int) := by rw [Int.tdiv_eq_ediv_of_nonneg (by omega)]; omega
      have g4 : (n : Int) / 10 = (dv : Int) := by omega
      rw [hdg] at HI2 HS HL2 HT
      rw [hdv] at HI1 HL1 HT
      clear ih h hdg hdv
      go_enter Try.func24, Try.ntmps24
      go_wp2_with fail
      (with_reducible refine Calls.mono (HI1.out w) ?_)
      rintro e w1 ⟨rfl, hb1⟩
      go_wp2_with fail
      (with_reducible refine Calls.mono (HI2.out _) ?_)
      rintro e w2 ⟨rfl, hb2⟩
      have HB := hid (below_after hb1 hb2 (Nat.le_refl _))
      have hsz : (9223372036854775807 < (strOf (tenS dv)).size + (strOf (tenS dg)).size) = False := by
        have := HL1.out
        have := HL2.out
        rw [strOf_size, strOf_size]
        simp only [eq_iff_iff, iff_false]
        omega
      clear hb1 hb2 HI1 HI2
      go_wp2_with fail
      go_ret
      exact ⟨by rw [HT.out, strOf_append, ← HS.out]; rfl, HB.out⟩
/-- The part that tells of data, behind a line that is not empty. -/
def dataT (n : Nat) : List UInt8 := if n = 0 then [] else [32, 100, 97, 116, 97, 32] ++ tenS n
theorem rdata_any (n : Nat) (w : World) (hn : n ≤ 9223372036854775807) : Calls Try.prog 27 #[.int .i64 (n : Int)] w fun e w' => e = .returned (.string (strOf (dataT n))) ∧ Below w.heap.size w w' := by
  have HT := hid (rten_any n)
  have HN := hid hn
  have hw : (n : Int) % 18446744073709551616 = (n : Int) := by omega
  by_cases h : n = 0
  · have t1 : ((n : Int) == 0) = true := by simp [h]
    have HD := hid (show dataT n = [] from if_pos h)
    clear h
    go_enter Try.func27, Try.ntmps27
    go_wp2_with fail
    go_ret
    exact ⟨by rw [HD.out]; rfl, Below.refl _ _⟩
  · have t1 : ((n : Int) == 0) = false := by simpa using h
    have HD := hid (show dataT n = [32, 100, 97, 116, 97, 32] ++ tenS n from if_neg h)
    have hsz : (9223372036854775807 < 6 + (strOf (tenS n)).size) = False := by
      have := tenS_20 n (by omega)
      rw [strOf_size]
      simp only [eq_iff_iff, iff_false]
      omega
    clear h
    go_enter Try.func27, Try.ntmps27
    go_wp2_with fail
    (with_reducible refine Calls.mono (HT.out w (by have := HN.out; omega)) ?_)
    rintro e w1 ⟨rfl, hb1⟩
    go_wp2_with fail
    go_ret
    exact ⟨by rw [HD.out, strOf_append]; rfl, hb1⟩
set_option maxHeartbeats 4000000 in
theorem rflags_any (f : Nat) (w : World) (hf : f < 256) : Calls Try.prog 15 #[.int .u8 (f : Int)] w fun e w' => e = .returned (.string (strOf (flagsS f))) ∧ Below w.heap.size w w' := by
  have HFL := hid fun k (h : k ≤ 6) => flagsT_len f k h
  go_enter Try.func15, Try.ntmps15
  go_wp2_with fail
  have n1 := nw1 w (.cells #[.int .u8 2, .int .u8 1, .int .u8 4, .int .u8 8, .int .u8 16, .int .u8 32] 5)
  have HB1 := hid (bl1 w (.cells #[.int .u8 2, .int .u8 1, .int .u8 4, .int .u8 8, .int .u8 16, .int .u8 32] 5))
  have c0 := cellRow n1 0
  have c1 := cellRow n1 1
  have c2 := cellRow n1 2
  have c3 := cellRow n1 3
  have c4 := cellRow n1 4
  have c5 := cellRow n1 5
  simp only [List.getElem?_toArray, List.getElem?_cons_succ, List.getElem?_cons_zero] at c0 c1 c2 c3 c4 c5
  clear n1
  generalize hxb : w.heap.size = xb at *
  generalize w.alloc _ = w1 at *
  have HXB := hid hxb
  clear hxb
  go_loopw [3, 6] (fun v i wr => ∃ (k : Nat), k ≤ 6 ∧ i = .int .i64 k ∧ v = .string (strOf (flagsT f k)) ∧ wr = w1) (fun _ i _ => 6 - (intOf i).toNat)
  case atStart => exact ⟨0, by omega, rfl, rfl, rfl⟩
  case round =>
    obtain ⟨k, hk, rfl, rfl, rfl⟩ := hrel
    obtain rfl | rfl | rfl | rfl | rfl | rfl | rfl : k = 0 ∨ k = 1 ∨ k = 2 ∨ k = 3 ∨ k = 4 ∨ k = 5 ∨ k = 6 := by omega
    · have hft := flagsT_1 f
      have hbt := bit_2 f hf
      obtain ⟨t, ht⟩ : ∃ t, decide (f / 2 % 2 = 1) = t := ⟨_, rfl⟩
      rw [ht] at hbt
      have hsl : ∀ W, (Instr.sliceAt 9 (.string ⟨#[83, 70, 82, 80, 65, 85]⟩) (some (.int .i64 0)) (some (.int .i64 1)) none).run Try.prog W = .ok (.string ⟨#[83]⟩) W := by intro W; kernel_rfl
      have hsz : (9223372036854775807 < (strOf (flagsT f 0)).size + 1) = False := by
        have := HFL.out 0 (by omega)
        rw [strOf_size]
        simp only [eq_iff_iff, iff_false]
        omega
      cases t
      · rw [if_neg (of_decide_eq_false ht), List.append_nil] at hft
        have HFT := hid hft
        clear hft ht
        go_wp2_with fail
        go_roundw
        case rel => exact ⟨1, by omega, rfl, by rw [HFT.out], trivial⟩
        case measure => simp [intOf]
      · rw [if_pos (of_decide_eq_true ht)] at hft
        have HFT := hid hft
        clear hft ht
        go_wp2_with fail
        go_roundw
        case rel => exact ⟨1, by omega, rfl, by rw [HFT.out, strOf_append]; rfl, trivial⟩
        case measure => simp [intOf]
    · have hft := flagsT_2 f
      have hbt := bit_1 f hf
      obtain ⟨t, ht⟩ : ∃ t, decide (f / 1 % 2 = 1) = t := ⟨_, rfl⟩
      rw [ht] at hbt
      have hsl : ∀ W, (Instr.sliceAt 9 (.string ⟨#[83, 70, 82, 80, 65, 85]⟩) (some (.int .i64 1)) (some (.int .i64 2)) none).run Try.prog W = .ok (.string ⟨#[70]⟩) W := by intro W; kernel_rfl
      have hsz : (9223372036854775807 < (strOf (flagsT f 1)).size + 1) = False := by
        have := HFL.out 1 (by omega)
        rw [strOf_size]
        simp only [eq_iff_iff, iff_false]
        omega
      cases t
      · rw [if_neg (of_decide_eq_false ht), List.append_nil] at hft
        have HFT := hid hft
        clear hft ht
        go_wp2_with fail
        go_roundw
        case rel => exact ⟨2, by omega, rfl, by rw [HFT.out], trivial⟩
        case measure => simp [intOf]
      · rw [if_pos (of_decide_eq_true ht)] at hft
        have HFT := hid hft
        clear hft ht
        go_wp2_with fail
        go_roundw
        case rel => exact ⟨2, by omega, rfl, by rw [HFT.out, strOf_append]; rfl, trivial⟩
        case measure => simp [intOf]
    · have hft := flagsT_3 f
      have hbt := bit_4 f hf
      obtain ⟨t, ht⟩ : ∃ t, decide (f / 4 % 2 = 1) = t := ⟨_, rfl⟩
      rw [ht] at hbt
      have hsl : ∀ W, (Instr.sliceAt 9 (.string ⟨#[83, 70, 82, 80, 65, 85]⟩) (some (.int .i64 2)) (some (.int .i64 3)) none).run Try.prog W = .ok (.string ⟨#[82]⟩) W := by intro W; kernel_rfl
      have hsz : (9223372036854775807 < (strOf (flagsT f 2)).size + 1) = False := by
        have := HFL.out 2 (by omega)
        rw [strOf_size]
        simp only [eq_iff_iff, iff_false]
        omega
      cases t
      · rw [if_neg (of_decide_eq_false ht), List.append_nil] at hft
        have HFT := hid hft
        clear hft ht
        go_wp2_with fail
        go_roundw
        case rel => exact ⟨3, by omega, rfl, by rw [HFT.out], trivial⟩
        case measure => simp [intOf]
      · rw [if_pos (of_decide_eq_true ht)] at hft
        have HFT := hid hft
        clear hft ht
        go_wp2_with fail
        go_roundw
        case rel => exact ⟨3, by omega, rfl, by rw [HFT.out, strOf_append]; rfl, trivial⟩
        case measure => simp [intOf]
    · have hft := flagsT_4 f
      have hbt := bit_8 f hf
      obtain ⟨t, ht⟩ : ∃ t, decide (f / 8 % 2 = 1) = t := ⟨_, rfl⟩
      rw [ht] at hbt
      have hsl : ∀ W, (Instr.sliceAt 9 (.string ⟨#[83, 70, 82, 80, 65, 85]⟩) (some (.int .i64 3)) (some (.int .i64 4)) none).run Try.prog W = .ok (.string ⟨#[80]⟩) W := by intro W; kernel_rfl
      have hsz : (9223372036854775807 < (strOf (flagsT f 3)).size + 1) = False := by
        have := HFL.out 3 (by omega)
        rw [strOf_size]
        simp only [eq_iff_iff, iff_false]
        omega
      cases t
      · rw [if_neg (of_decide_eq_false ht), List.append_nil] at hft
        have HFT := hid hft
        clear hft ht
        go_wp2_with fail
        go_roundw
        case rel => exact ⟨4, by omega, rfl, by rw [HFT.out], trivial⟩
        case measure => simp [intOf]
      · rw [if_pos (of_decide_eq_true ht)] at hft
        have HFT := hid hft
        clear hft ht
        go_wp2_with fail
        go_roundw
        case rel => exact ⟨4, by omega, rfl, by rw [HFT.out, strOf_append]; rfl, trivial⟩
        case measure => simp [intOf]
    · have hft := flagsT_5 f
      have hbt := bit_16 f hf
      obtain ⟨t, ht⟩ : ∃ t, decide (f / 16 % 2 = 1) = t := ⟨_, rfl⟩
      rw [ht] at hbt
      have hsl : ∀ W, (Instr.sliceAt 9 (.string ⟨#[83, 70, 82, 80, 65, 85]⟩) (some (.int .i64 4)) (some (.int .i64 5)) none).run Try.prog W = .ok (.string ⟨#[65]⟩) W := by intro W; kernel_rfl
      have hsz : (9223372036854775807 < (strOf (flagsT f 4)).size + 1) = False := by
        have := HFL.out 4 (by omega)
        rw [strOf_size]
        simp only [eq_iff_iff, iff_false]
        omega
      cases t
      · rw [if_neg (of_decide_eq_false ht), List.append_nil] at hft
        have HFT := hid hft
        clear hft ht
        go_wp2_with fail
        go_roundw
        case rel => exact ⟨5, by omega, rfl, by rw [HFT.out], trivial⟩
        case measure => simp [intOf]
      · rw [if_pos (of_decide_eq_true ht)] at hft
        have HFT := hid hft
        clear hft ht
        go_wp2_with fail
        go_roundw
        case rel => exact ⟨5, by omega, rfl, by rw [HFT.out, strOf_append]; rfl, trivial⟩
        case measure => simp [intOf]
    · have hft := flagsT_6 f
      have hbt := bit_32 f hf
      obtain ⟨t, ht⟩ : ∃ t, decide (f / 32 % 2 = 1) = t := ⟨_, rfl⟩
      rw [ht] at hbt
      have hsl : ∀ W, (Instr.sliceAt 9 (.string ⟨#[83, 70, 82, 80, 65, 85]⟩) (some (.int .i64 5)) (some (.int .i64 6)) none).run Try.prog W = .ok (.string ⟨#[85]⟩) W := by intro W; kernel_rfl
      have hsz : (9223372036854775807 < (strOf (flagsT f 5)).size + 1) = False := by
        have := HFL.out 5 (by omega)
        rw [strOf_size]
        simp only [eq_iff_iff, iff_false]
        omega
      cases t
      · rw [if_neg (of_decide_eq_false ht), List.append_nil] at hft
        have HFT := hid hft
        clear hft ht
        go_wp2_with fail
        go_roundw
        case rel => exact ⟨6, by omega, rfl, by rw [HFT.out], trivial⟩
        case measure => simp [intOf]
      · rw [if_pos (of_decide_eq_true ht)] at hft
        have HFT := hid hft
        clear hft ht
        go_wp2_with fail
        go_roundw
        case rel => exact ⟨6, by omega, rfl, by rw [HFT.out, strOf_append]; rfl, trivial⟩
        case measure => simp [intOf]
    · have hfs := flagsS_eq f
      have hfl := HFL.out 6 (by omega)
      generalize flagsT f 6 = xs at hfs hfl ⊢
      by_cases hx0 : xs = []
      · subst hx0
        rw [if_pos rfl] at hfs
        have HFS := hid hfs
        have hie : (strOf ([] : List UInt8)).toList.isEmpty = true := by rw [toList_strOf]; rfl
        clear hfs hfl
        go_wp2_with fail
        go_ret
        exact ⟨by rw [HFS.out]; rfl, by rw [HXB.out]; exact HB1.out⟩
      · rw [if_neg hx0] at hfs
        have HFS := hid hfs
        have hie : (strOf xs).toList.isEmpty = false := by rw [toList_strOf]; simpa using hx0
        clear hfs hfl hx0
        go_wp2_with fail
        go_ret
        exact ⟨by rw [HFS.out]; rfl, by rw [HXB.out]; exact HB1.out⟩
end Go.Proofs.Ytfliddlcbnaoiaa
