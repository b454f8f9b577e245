/- dump.Flags, line.data, seg.Has. -/
import Derived.Test.YtfliddlcbnaoiaaLinB
import Derived.Test.YtfliddlcbnaoiaaOpt
import Derived.Test.YtfliddlcbnaoiaaQRow
import Derived.Test.YtfliddlcbnaoiaaBuf
namespace Go.Proofs.Ytfliddlcbnaoiaa
set_option linter.unusedVariables false
set_option linter.unusedSimpArgs false
open Go.RowKit

def flagL : List (Nat × UInt8) := [(2, 83), (1, 70), (4, 82), (8, 80), (16, 65), (32, 85)]
def flagsT (f : Nat) (k : Nat) : List UInt8 := (flagL.take k).flatMap fun x => if f / x.1 % 2 = 1 then [x.2] else []
theorem flagsS_eq (f : Nat) : flagsS f = if flagsT f 6 = [] then [45] else flagsT f 6 := by
  simp [flagsS, flagsT, flagL, List.flatMap]
theorem flagsT_len (f k : Nat) (h : k ≤ 6) : (flagsT f k).length ≤ 6 := by
  have : ∀ k : Fin 7, (flagsT f k.val).length ≤ k.val := by
    intro k
    match k with
    | ⟨0, _⟩ => simp [flagsT, flagL]
    | ⟨1, _⟩ => simp only [flagsT, flagL, List.take, List.flatMap_cons, List.flatMap_nil, List.length_append, List.append_nil]; split <;> simp
    | ⟨2, _⟩ => simp only [flagsT, flagL, List.take, List.flatMap_cons, List.flatMap_nil, List.length_append, List.append_nil]; repeat' split <;> simp
    | ⟨3, _⟩ => simp only [flagsT, flagL, List.take, List.flatMap_cons, List.flatMap_nil, List.length_append, List.append_nil]; repeat' split <;> simp
    | ⟨4, _⟩ => simp only [flagsT, flagL, List.take, List.flatMap_cons, List.flatMap_nil, List.length_append, List.append_nil]; repeat' split <;> simp
    | ⟨5, _⟩ => simp only [flagsT, flagL, List.take, List.flatMap_cons, List.flatMap_nil, List.length_append, List.append_nil]; repeat' split <;> simp
    | ⟨6, _⟩ => simp only [flagsT, flagL, List.take, List.flatMap_cons, List.flatMap_nil, List.length_append, List.append_nil]; repeat' split <;> simp
  exact Nat.le_trans (this ⟨k, by omega⟩) h
theorem bit_2 (f : Nat) (h : f < 256) : (bits .and .u8 (f : Int) 2 != 0) = decide (f / 2 % 2 = 1) := by
  have : ∀ f : Fin 256, (bits .and .u8 ((f.val : Nat) : Int) 2 != 0) = decide (f.val / 2 % 2 = 1) := by decide +kernel
  exact this ⟨f, h⟩
theorem flagsT_1 (f : Nat) : flagsT f 1 = flagsT f 0 ++ if f / 2 % 2 = 1 then [83] else [] := by simp [flagsT, flagL, List.flatMap]
theorem bit_1 (f : Nat) (h : f < 256) : (bits .and .u8 (f : Int) 1 != 0) = decide (f / 1 % 2 = 1) := by
  have : ∀ f : Fin 256, (bits .and .u8 ((f.val : Nat) : Int) 1 != 0) = decide (f.val / 1 % 2 = 1) := by decide +kernel
  exact this ⟨f, h⟩
theorem flagsT_2 (f : Nat) : flagsT f 2 = flagsT f 1 ++ if f / 1 % 2 = 1 then [70] else [] := by simp [flagsT, flagL, List.flatMap]
theorem bit_4 (f : Nat) (h : f < 256) : (bits .and .u8 (f : Int) 4 != 0) = decide (f / 4 % 2 = 1) := by
  have : ∀ f : Fin 256, (bits .and .u8 ((f.val : Nat) : Int) 4 != 0) = decide (f.val / 4 % 2 = 1) := by decide +kernel
  exact this ⟨f, h⟩
theorem flagsT_3 (f : Nat) : flagsT f 3 = flagsT f 2 ++ if f / 4 % 2 = 1 then [82] else [] := by simp [flagsT, flagL, List.flatMap]
theorem bit_8 (f : Nat) (h : f < 256) : (bits .and .u8 (f : Int) 8 != 0) = decide (f / 8 % 2 = 1) := by
  have : ∀ f : Fin 256, (bits .and .u8 ((f.val : Nat) : Int) 8 != 0) = decide (f.val / 8 % 2 = 1) := by decide +kernel
  exact this ⟨f, h⟩
theorem flagsT_4 (f : Nat) : flagsT f 4 = flagsT f 3 ++ if f / 8 % 2 = 1 then [80] else [] := by simp [flagsT, flagL, List.flatMap]
theorem bit_16 (f : Nat) (h : f < 256) : (bits .and .u8 (f : Int) 16 != 0) = decide (f / 16 % 2 = 1) := by
  have : ∀ f : Fin 256, (bits .and .u8 ((f.val : Nat) : Int) 16 != 0) = decide (f.val / 16 % 2 = 1) := by decide +kernel
  exact this ⟨f, h⟩
theorem flagsT_5 (f : Nat) : flagsT f 5 = flagsT f 4 ++ if f / 16 % 2 = 1 then [65] else [] := by simp [flagsT, flagL, List.flatMap]
theorem bit_32 (f : Nat) (h : f < 256) : (bits .and .u8 (f : Int) 32 != 0) = decide (f / 32 % 2 = 1) := by
  have : ∀ f : Fin 256, (bits .and .u8 ((f.val : Nat) : Int) 32 != 0) = decide (f.val / 32 % 2 = 1) := by decide +kernel
  exact this ⟨f, h⟩
theorem flagsT_6 (f : Nat) : flagsT f 6 = flagsT f 5 ++ if f / 32 % 2 = 1 then [85] else [] := by simp [flagsT, flagL, List.flatMap]
set_option maxHeartbeats 4000000 in
theorem flags_any (f : Nat) (w : World) (hf : f < 256) : Calls Try.prog 14 #[.int .u8 (f : Int)] w fun e w' => e = .returned (.string (strOf (flagsS f))) ∧ Below w.heap.size w w' := by
  have HFL := hid fun k (h : k ≤ 6) => flagsT_len f k h
  go_enter Try.func14, Try.ntmps14
  go_wp2_with fail
  go_loopw [3, 13] (fun v i wr => ∃ (k : Nat) (A : Option Addr) (c : Nat), k ≤ 6 ∧ i = .int .i64 k ∧ v = .slice A (flagsT f k).length c ∧ OB wr w.heap.size (.slice A (flagsT f k).length c) (flagsT f k) ∧ Below w.heap.size w wr) (fun _ i _ => 6 - (intOf i).toNat)
  case atStart => exact ⟨0, none, 0, by omega, rfl, rfl, OB.nil _ _, Below.refl _ _⟩
  case round =>
    obtain ⟨k, A, c, hk, rfl, rfl, ho, hb⟩ := hrel
    have HO := hid ho
    have HB := hid hb
    clear ho hb
    obtain rfl | rfl | rfl | rfl | rfl | rfl | rfl : k = 0 ∨ k = 1 ∨ k = 2 ∨ k = 3 ∨ k = 4 ∨ k = 5 ∨ k = 6 := by omega
    · have hix : ∀ W, (Instr.index 63 (.agg #[.int .u8 2, .int .u8 83, .int .u8 1, .int .u8 70, .int .u8 4, .int .u8 82, .int .u8 8, .int .u8 80, .int .u8 16, .int .u8 65, .int .u8 32, .int .u8 85]) (.int .i64 0)).run Try.prog W = .ok (.agg #[.int .u8 2, .int .u8 83]) W := by intro W; kernel_rfl
      have hft := flagsT_1 f
      have hbt := bit_2 f hf
      obtain ⟨t, ht⟩ : ∃ t, decide (f / 2 % 2 = 1) = t := ⟨_, rfl⟩
      rw [ht] at hbt
      cases t
      · rw [if_neg (of_decide_eq_false ht), List.append_nil] at hft
        have HFT := hid hft
        clear hft ht
        go_wp2_with fail
        go_roundw
        case rel => exact ⟨1, A, c, by omega, rfl, by rw [HFT.out], by rw [HFT.out]; exact HO.out.below (bl1 _ _), HB.out.trans ((bl1 _ _).mono HB.out.size)⟩
        case measure => simp [intOf]
      · rw [if_pos (of_decide_eq_true ht)] at hft
        have HFT := hid hft
        clear hft ht
        have HO2 := hid (HO.out.below (bl2 wr (.cells #[.int .u8 2, .int .u8 83] 62) (.cells #[.int .u8 83] 5)))
        have HR2 := hid (show RB ((wr.alloc (.cells #[.int .u8 2, .int .u8 83] 62)).alloc (.cells #[.int .u8 83] 5)) (.slice (some ⟨wr.heap.size + 1, 0, none⟩) 1 1) [83] from RB.inBlock (nw2 wr (.cells #[.int .u8 2, .int .u8 83] 62) (.cells #[.int .u8 83] 5)) rfl (Nat.le_refl _) (by decide) (fun j v hv => by rw [Nat.zero_add, List.getElem?_toArray]; exact hv))
        have HB2 := hid (HB.out.trans ((bl2 wr (.cells #[.int .u8 2, .int .u8 83] 62) (.cells #[.int .u8 83] 5)).mono HB.out.size))
        go_wp2_with ((with_reducible refine at_slot 25 ?_); refine append_u8 (.tmp 21) (.tmp 24) w.heap.size (flagsT f 0) [83] (flagsT f 1) HFT.out.symm rfl rfl rfl rfl HO2.out HR2.out (by have := HFL.out 0 (by omega); simp only [List.length_cons, List.length_nil]; omega) HB2.out.size ?_; intro A3 c3 w3 ho3 hb3 hg3 _; have HO3 := hid ho3; have HB3 := hid (HB2.out.trans hb3); clear ho3 hb3 hg3)
        go_roundw
        case rel => exact ⟨1, A3, c3, by omega, rfl, rfl, HO3.out, HB3.out⟩
        case measure => simp [intOf]
    · have hix : ∀ W, (Instr.index 63 (.agg #[.int .u8 2, .int .u8 83, .int .u8 1, .int .u8 70, .int .u8 4, .int .u8 82, .int .u8 8, .int .u8 80, .int .u8 16, .int .u8 65, .int .u8 32, .int .u8 85]) (.int .i64 1)).run Try.prog W = .ok (.agg #[.int .u8 1, .int .u8 70]) W := by intro W; kernel_rfl
      have hft := flagsT_2 f
      have hbt := bit_1 f hf
      obtain ⟨t, ht⟩ : ∃ t, decide (f / 1 % 2 = 1) = t := ⟨_, rfl⟩
      rw [ht] at hbt
      cases t
      · rw [if_neg (of_decide_eq_false ht), List.append_nil] at hft
        have HFT := hid hft
        clear hft ht
        go_wp2_with fail
        go_roundw
        case rel => exact ⟨2, A, c, by omega, rfl, by rw [HFT.out], by rw [HFT.out]; exact HO.out.below (bl1 _ _), HB.out.trans ((bl1 _ _).mono HB.out.size)⟩
        case measure => simp [intOf]
      · rw [if_pos (of_decide_eq_true ht)] at hft
        have HFT := hid hft
        clear hft ht
        have HO2 := hid (HO.out.below (bl2 wr (.cells #[.int .u8 1, .int .u8 70] 62) (.cells #[.int .u8 70] 5)))
        have HR2 := hid (show RB ((wr.alloc (.cells #[.int .u8 1, .int .u8 70] 62)).alloc (.cells #[.int .u8 70] 5)) (.slice (some ⟨wr.heap.size + 1, 0, none⟩) 1 1) [70] from RB.inBlock (nw2 wr (.cells #[.int .u8 1, .int .u8 70] 62) (.cells #[.int .u8 70] 5)) rfl (Nat.le_refl _) (by decide) (fun j v hv => by rw [Nat.zero_add, List.getElem?_toArray]; exact hv))
        have HB2 := hid (HB.out.trans ((bl2 wr (.cells #[.int .u8 1, .int .u8 70] 62) (.cells #[.int .u8 70] 5)).mono HB.out.size))
        go_wp2_with ((with_reducible refine at_slot 25 ?_); refine append_u8 (.tmp 21) (.tmp 24) w.heap.size (flagsT f 1) [70] (flagsT f 2) HFT.out.symm rfl rfl rfl rfl HO2.out HR2.out (by have := HFL.out 1 (by omega); simp only [List.length_cons, List.length_nil]; omega) HB2.out.size ?_; intro A3 c3 w3 ho3 hb3 hg3 _; have HO3 := hid ho3; have HB3 := hid (HB2.out.trans hb3); clear ho3 hb3 hg3)
        go_roundw
        case rel => exact ⟨2, A3, c3, by omega, rfl, rfl, HO3.out, HB3.out⟩
        case measure => simp [intOf]
    · have hix : ∀ W, (Instr.index 63 (.agg #[.int .u8 2, .int .u8 83, .int .u8 1, .int .u8 70, .int .u8 4, .int .u8 82, .int .u8 8, .int .u8 80, .int .u8 16, .int .u8 65, .int .u8 32, .int .u8 85]) (.int .i64 2)).run Try.prog W = .ok (.agg #[.int .u8 4, .int .u8 82]) W := by intro W; kernel_rfl
      have hft := flagsT_3 f
      have hbt := bit_4 f hf
      obtain ⟨t, ht⟩ : ∃ t, decide (f / 4 % 2 = 1) = t := ⟨_, rfl⟩
      rw [ht] at hbt
      cases t
      · rw [if_neg (of_decide_eq_false ht), List.append_nil] at hft
        have HFT := hid hft
        clear hft ht
        go_wp2_with fail
        go_roundw
        case rel => exact ⟨3, A, c, by omega, rfl, by rw [HFT.out], by rw [HFT.out]; exact HO.out.below (bl1 _ _), HB.out.trans ((bl1 _ _).mono HB.out.size)⟩
        case measure => simp [intOf]
      · rw [if_pos (of_decide_eq_true ht)] at hft
        have HFT := hid hft
        clear hft ht
        have HO2 := hid (HO.out.below (bl2 wr (.cells #[.int .u8 4, .int .u8 82] 62) (.cells #[.int .u8 82] 5)))
        have HR2 := hid (show RB ((wr.alloc (.cells #[.int .u8 4, .int .u8 82] 62)).alloc (.cells #[.int .u8 82] 5)) (.slice (some ⟨wr.heap.size + 1, 0, none⟩) 1 1) [82] from RB.inBlock (nw2 wr (.cells #[.int .u8 4, .int .u8 82] 62) (.cells #[.int .u8 82] 5)) rfl (Nat.le_refl _) (by decide) (fun j v hv => by rw [Nat.zero_add, List.getElem?_toArray]; exact hv))
        have HB2 := hid (HB.out.trans ((bl2 wr (.cells #[.int .u8 4, .int .u8 82] 62) (.cells #[.int .u8 82] 5)).mono HB.out.size))
        go_wp2_with ((with_reducible refine at_slot 25 ?_); refine append_u8 (.tmp 21) (.tmp 24) w.heap.size (flagsT f 2) [82] (flagsT f 3) HFT.out.symm rfl rfl rfl rfl HO2.out HR2.out (by have := HFL.out 2 (by omega); simp only [List.length_cons, List.length_nil]; omega) HB2.out.size ?_; intro A3 c3 w3 ho3 hb3 hg3 _; have HO3 := hid ho3; have HB3 := hid (HB2.out.trans hb3); clear ho3 hb3 hg3)
        go_roundw
        case rel => exact ⟨3, A3, c3, by omega, rfl, rfl, HO3.out, HB3.out⟩
        case measure => simp [intOf]
    · have hix : ∀ W, (Instr.index 63 (.agg #[.int .u8 2, .int .u8 83, .int .u8 1, .int .u8 70, .int .u8 4, .int .u8 82, .int .u8 8, .int .u8 80, .int .u8 16, .int .u8 65, .int .u8 32, .int .u8 85]) (.int .i64 3)).run Try.prog W = .ok (.agg #[.int .u8 8, .int .u8 80]) W := by intro W; kernel_rfl
      have hft := flagsT_4 f
      have hbt := bit_8 f hf
      obtain ⟨t, ht⟩ : ∃ t, decide (f / 8 % 2 = 1) = t := ⟨_, rfl⟩
      rw [ht] at hbt
      cases t
      · rw [if_neg (of_decide_eq_false ht), List.append_nil] at hft
        have HFT := hid hft
        clear hft ht
        go_wp2_with fail
        go_roundw
        case rel => exact ⟨4, A, c, by omega, rfl, by rw [HFT.out], by rw [HFT.out]; exact HO.out.below (bl1 _ _), HB.out.trans ((bl1 _ _).mono HB.out.size)⟩
        case measure => simp [intOf]
      · rw [if_pos (of_decide_eq_true ht)] at hft
        have HFT := hid hft
        clear hft ht
        have HO2 := hid (HO.out.below (bl2 wr (.cells #[.int .u8 8, .int .u8 80] 62) (.cells #[.int .u8 80] 5)))
        have HR2 := hid (show RB ((wr.alloc (.cells #[.int .u8 8, .int .u8 80] 62)).alloc (.cells #[.int .u8 80] 5)) (.slice (some ⟨wr.heap.size + 1, 0, none⟩) 1 1) [80] from RB.inBlock (nw2 wr (.cells #[.int .u8 8, .int .u8 80] 62) (.cells #[.int .u8 80] 5)) rfl (Nat.le_refl _) (by decide) (fun j v hv => by rw [Nat.zero_add, List.getElem?_toArray]; exact hv))
        have HB2 := hid (HB.out.trans ((bl2 wr (.cells #[.int .u8 8, .int .u8 80] 62) (.cells #[.int .u8 80] 5)).mono HB.out.size))
        go_wp2_with ((with_reducible refine at_slot 25 ?_); refine append_u8 (.tmp 21) (.tmp 24) w.heap.size (flagsT f 3) [80] (flagsT f 4) HFT.out.symm rfl rfl rfl rfl HO2.out HR2.out (by have := HFL.out 3 (by omega); simp only [List.length_cons, List.length_nil]; omega) HB2.out.size ?_; intro A3 c3 w3 ho3 hb3 hg3 _; have HO3 := hid ho3; have HB3 := hid (HB2.out.trans hb3); clear ho3 hb3 hg3)
        go_roundw
        case rel => exact ⟨4, A3, c3, by omega, rfl, rfl, HO3.out, HB3.out⟩
        case measure => simp [intOf]
    · have hix : ∀ W, (Instr.index 63 (.agg #[.int .u8 2, .int .u8 83, .int .u8 1, .int .u8 70, .int .u8 4, .int .u8 82, .int .u8 8, .int .u8 80, .int .u8 16, .int .u8 65, .int .u8 32, .int .u8 85]) (.int .i64 4)).run Try.prog W = .ok (.agg #[.int .u8 16, .int .u8 65]) W := by intro W; kernel_rfl
      have hft := flagsT_5 f
      have hbt := bit_16 f hf
      obtain ⟨t, ht⟩ : ∃ t, decide (f / 16 % 2 = 1) = t := ⟨_, rfl⟩
      rw [ht] at hbt
      cases t
      · rw [if_neg (of_decide_eq_false ht), List.append_nil] at hft
        have HFT := hid hft
        clear hft ht
        go_wp2_with fail
        go_roundw
        case rel => exact ⟨5, A, c, by omega, rfl, by rw [HFT.out], by rw [HFT.out]; exact HO.out.below (bl1 _ _), HB.out.trans ((bl1 _ _).mono HB.out.size)⟩
        case measure => simp [intOf]
      · rw [if_pos (of_decide_eq_true ht)] at hft
        have HFT := hid hft
        clear hft ht
        have HO2 := hid (HO.out.below (bl2 wr (.cells #[.int .u8 16, .int .u8 65] 62) (.cells #[.int .u8 65] 5)))
        have HR2 := hid (show RB ((wr.alloc (.cells #[.int .u8 16, .int .u8 65] 62)).alloc (.cells #[.int .u8 65] 5)) (.slice (some ⟨wr.heap.size + 1, 0, none⟩) 1 1) [65] from RB.inBlock (nw2 wr (.cells #[.int .u8 16, .int .u8 65] 62) (.cells #[.int .u8 65] 5)) rfl (Nat.le_refl _) (by decide) (fun j v hv => by rw [Nat.zero_add, List.getElem?_toArray]; exact hv))
        have HB2 := hid (HB.out.trans ((bl2 wr (.cells #[.int .u8 16, .int .u8 65] 62) (.cells #[.int .u8 65] 5)).mono HB.out.size))
        go_wp2_with ((with_reducible refine at_slot 25 ?_); refine append_u8 (.tmp 21) (.tmp 24) w.heap.size (flagsT f 4) [65] (flagsT f 5) HFT.out.symm rfl rfl rfl rfl HO2.out HR2.out (by have := HFL.out 4 (by omega); simp only [List.length_cons, List.length_nil]; omega) HB2.out.size ?_; intro A3 c3 w3 ho3 hb3 hg3 _; have HO3 := hid ho3; have HB3 := hid (HB2.out.trans hb3); clear ho3 hb3 hg3)
        go_roundw
        case rel => exact ⟨5, A3, c3, by omega, rfl, rfl, HO3.out, HB3.out⟩
        case measure => simp [intOf]
    · have hix : ∀ W, (Instr.index 63 (.agg #[.int .u8 2, .int .u8 83, .int .u8 1, .int .u8 70, .int .u8 4, .int .u8 82, .int .u8 8, .int .u8 80, .int .u8 16, .int .u8 65, .int .u8 32, .int .u8 85]) (.int .i64 5)).run Try.prog W = .ok (.agg #[.int .u8 32, .int .u8 85]) W := by intro W; kernel_rfl
      have hft := flagsT_6 f
      have hbt := bit_32 f hf
      obtain ⟨t, ht⟩ : ∃ t, decide (f / 32 % 2 = 1) = t := ⟨_, rfl⟩
      rw [ht] at hbt
      cases t
      · rw [if_neg (of_decide_eq_false ht), List.append_nil] at hft
        have HFT := hid hft
        clear hft ht
        go_wp2_with fail
        go_roundw
        case rel => exact ⟨6, A, c, by omega, rfl, by rw [HFT.out], by rw [HFT.out]; exact HO.out.below (bl1 _ _), HB.out.trans ((bl1 _ _).mono HB.out.size)⟩
        case measure => simp [intOf]
      · rw [if_pos (of_decide_eq_true ht)] at hft
        have HFT := hid hft
        clear hft ht
        have HO2 := hid (HO.out.below (bl2 wr (.cells #[.int .u8 32, .int .u8 85] 62) (.cells #[.int .u8 85] 5)))
        have HR2 := hid (show RB ((wr.alloc (.cells #[.int .u8 32, .int .u8 85] 62)).alloc (.cells #[.int .u8 85] 5)) (.slice (some ⟨wr.heap.size + 1, 0, none⟩) 1 1) [85] from RB.inBlock (nw2 wr (.cells #[.int .u8 32, .int .u8 85] 62) (.cells #[.int .u8 85] 5)) rfl (Nat.le_refl _) (by decide) (fun j v hv => by rw [Nat.zero_add, List.getElem?_toArray]; exact hv))
        have HB2 := hid (HB.out.trans ((bl2 wr (.cells #[.int .u8 32, .int .u8 85] 62) (.cells #[.int .u8 85] 5)).mono HB.out.size))
        go_wp2_with ((with_reducible refine at_slot 25 ?_); refine append_u8 (.tmp 21) (.tmp 24) w.heap.size (flagsT f 5) [85] (flagsT f 6) HFT.out.symm rfl rfl rfl rfl HO2.out HR2.out (by have := HFL.out 5 (by omega); simp only [List.length_cons, List.length_nil]; omega) HB2.out.size ?_; intro A3 c3 w3 ho3 hb3 hg3 _; have HO3 := hid ho3; have HB3 := hid (HB2.out.trans hb3); clear ho3 hb3 hg3)
        go_roundw
        case rel => exact ⟨6, A3, c3, by omega, rfl, rfl, HO3.out, HB3.out⟩
        case measure => simp [intOf]
    · have hfs := flagsS_eq f
      have hfl := HFL.out 6 (by omega)
      have hrb := HO.out.rb
      generalize flagsT f 6 = xs at HO hfs hfl hrb
      by_cases hx0 : xs = []
      · subst hx0
        rw [if_pos rfl] at hfs
        have HFS := hid hfs
        clear hfs hfl hrb
        go_wp2_with fail
        go_ret
        exact ⟨by rw [HFS.out]; rfl, HB.out⟩
      · rw [if_neg hx0] at hfs
        have hpos : ((xs.length : Int) == 0) = false := by
          have : xs.length ≠ 0 := by simpa using hx0
          simp; omega
        have hcv : (convert 28 9 (.slice A xs.length c)).run Try.prog wr = .ok (.string (strOf xs)) wr := conv_str hrb
        have HFS := hid hfs
        clear hfs hfl hrb hx0
        go_wp2_with fail
        go_ret
        exact ⟨by rw [HFS.out]; rfl, HB.out⟩
end Go.Proofs.Ytfliddlcbnaoiaa
