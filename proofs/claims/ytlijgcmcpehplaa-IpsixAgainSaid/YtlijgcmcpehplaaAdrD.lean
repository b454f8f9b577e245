/- Walks: the reference's Of. -/
import Derived.Test.YtlijgcmcpehplaaAdrC
namespace Go.Proofs.Ytlijgcmcpehplaa
set_option linter.unusedVariables false
set_option linter.unusedSimpArgs false
open Go.RowKit

theorem splice_next (L : List Value) (b : List UInt8) (k : Nat) (hk : k < b.length) (hL : 1 + b.length ≤ L.length) :
    (splice L 1 (by8 (b.take k))).toArray.setIfInBounds (1 + k) (.int .u8 ((b.getD k 0).toNat : Int)) = (splice L 1 (by8 (b.take (k + 1)))).toArray := by
  unfold splice
  have h1 : (by8 (b.take k)).length = k := by rw [by8_length, List.length_take]; omega
  have h2 : (by8 (b.take (k + 1))).length = k + 1 := by rw [by8_length, List.length_take]; omega
  rw [h1, h2]
  have h3 : by8 (b.take (k + 1)) = by8 (b.take k) ++ [.int .u8 ((b.getD k 0).toNat : Int)] := by
    rw [List.take_succ_eq_append_getElem hk, by8_append]
    simp [by8, u8, List.getD_eq_getElem?_getD, List.getElem?_eq_getElem hk]
  rw [h3, List.setIfInBounds_toArray]
  congr 1
  have h4 : L.drop (1 + k) = L[1 + k] :: L.drop (1 + (k + 1)) := List.drop_eq_getElem_cons (by omega)
  have h6 : (L.take 1).length = 1 := by rw [List.length_take]; omega
  rw [h4, List.set_append_right _ _ (by omega), h6, List.set_append_right _ _ (by omega), h1]
  have h5 : 1 + k - 1 - k = 0 := by omega
  rw [h5]
  simp
theorem splice_len (L : List Value) (xs : List Value) (h : 1 + xs.length ≤ L.length) : (splice L 1 xs).length = L.length := by
  unfold splice; simp; omega
set_option maxHeartbeats 400000 in
theorem radrOf16 (v : Value) (b : List UInt8) (w : World) (hx : RB w v b) (hl : b.length = 16) : Calls Try.prog 35 #[v] w fun e w' =>
    e = .returned (.tuple #[.agg (adr6 b).cells, .int .i64 0]) ∧ Below w.heap.size w w' := by
  obtain ⟨A, c, rfl, hrow⟩ := hx
  have hcap := hrow.cap
  have htop := hrow.top
  obtain ⟨ad, rfl, _⟩ := hrow.at_ 0 _ (by8_get b 0 (by omega))
  have HS := hid (of16_cells b hl)
  have HL := hid hl
  have HR := hid hrow
  clear hrow
  rw [hl] at hcap HR ⊢
  clear hl
  go_enter Try.func35, Try.ntmps35
  go_wp2
  go_loopw [5] (fun i wr => ∃ k : Nat, k ≤ 16 ∧ i = .int .i64 k ∧ wr.heap[w.heap.size]? = some (.cells (noAdr false).cells 24 (0, 0)) ∧ wr.heap[w.heap.size + 1]? = some (.cells (splice (noAdr true).cells.toList 1 (by8 (b.take k))).toArray 24 (0, 0)) ∧ Below w.heap.size w wr) (fun i _ => 16 - (intOf i).toNat)
  case atStart => exact ⟨0, by omega, rfl, nw2a w _ _, nw2 w _ _, bl2 w _ _⟩
  case round =>
    obtain ⟨k, hk, rfl, h0, h1, hb⟩ := hrel
    by_cases hlt : k < 16
    · have e0 := (HR.out.below hb).get k _ (by8_get b k (by rw [HL.out]; exact hlt))
      have hfr := frozRow h1 (1 + k)
      have hsz : (splice (noAdr true).cells.toList 1 (by8 (b.take k))).length = 17 := splice_len _ _ (by rw [by8_length, List.length_take, HL.out]; show _ ≤ 17; omega)
      obtain ⟨old, hcl⟩ : ∃ old, wr.cell? ⟨w.heap.size + 1, 1 + k, none⟩ = some old := ⟨_, by rw [cellRow h1]; exact Array.getElem?_eq_getElem (by simp [hsz]; omega)⟩
      have hn := splice_next (noAdr true).cells.toList b k (by rw [HL.out]; exact hlt) (by rw [HL.out]; decide)
      have hs1 := rowSetCell h1 (1 + k) (.int .u8 ((b.getD k 0).toNat : Int))
      rw [hn] at hs1
      have H0 := hid h0
      have HS1 := hid hs1
      have HBx := hid hb
      have hbz := hb.size
      clear hsz hn hs1 h0 h1 hb
      generalize b.getD k 0 = x at e0 HS1
      go_wp2
      go_roundw
      case rel => exact ⟨k + 1, by omega, by go_num, (rowSetCell_far (by omega) _ _).trans H0.out, HS1.out, HBx.out.setCell (by simp) _⟩
      case measure => simp [intOf]; omega
    · obtain rfl : k = 16 := by omega
      rw [List.take_of_length_le (by rw [HL.out]; omega), HS.out] at h1
      go_wp2_with (first
        | refine wpList_load_row rfl 24 (.tmp 4) rfl (w.heap.size + 1) rfl _ (adr6 b).cells _ _ h1 Try.underlying24 rfl (infoA _) ?_
        | refine wpList_store_row rfl 24 (.tmp 2) (.tmp 32) rfl w.heap.size _ rfl rfl _ _ h0 (infoA _) rfl (Adr.one _) ?_)
      exact adr_ret2 (a := adr6 b) rfl rfl rfl (rowSetRow h0 _) ⟨rfl, belowSetRow hb (Nat.le_refl _) _⟩
set_option maxHeartbeats 400000 in
theorem radrOf4 (v : Value) (b : List UInt8) (w : World) (hx : RB w v b) (hl : b.length = 4) : Calls Try.prog 35 #[v] w fun e w' =>
    e = .returned (.tuple #[.agg (adr4 b).cells, .int .i64 0]) ∧ Below w.heap.size w w' := by
  obtain ⟨A, c, rfl, hrow⟩ := hx
  have hcap := hrow.cap
  have htop := hrow.top
  obtain ⟨ad, rfl, _⟩ := hrow.at_ 0 _ (by8_get b 0 (by omega))
  have HS := hid (of4_cells b hl)
  have HL := hid hl
  have HR := hid hrow
  clear hrow
  rw [hl] at hcap HR ⊢
  clear hl
  go_enter Try.func35, Try.ntmps35
  go_wp2
  go_loopw [5] (fun i wr => ∃ k : Nat, k ≤ 4 ∧ i = .int .i64 k ∧ wr.heap[w.heap.size]? = some (.cells (noAdr false).cells 24 (0, 0)) ∧ wr.heap[w.heap.size + 1]? = some (.cells (splice (noAdr false).cells.toList 1 (by8 (b.take k))).toArray 24 (0, 0)) ∧ Below w.heap.size w wr) (fun i _ => 4 - (intOf i).toNat)
  case atStart => exact ⟨0, by omega, rfl, nw2a w _ _, nw2 w _ _, bl2 w _ _⟩
  case round =>
    obtain ⟨k, hk, rfl, h0, h1, hb⟩ := hrel
    by_cases hlt : k < 4
    · have e0 := (HR.out.below hb).get k _ (by8_get b k (by rw [HL.out]; exact hlt))
      have hfr := frozRow h1 (1 + k)
      have hsz : (splice (noAdr false).cells.toList 1 (by8 (b.take k))).length = 17 := splice_len _ _ (by rw [by8_length, List.length_take, HL.out]; show _ ≤ 17; omega)
      obtain ⟨old, hcl⟩ : ∃ old, wr.cell? ⟨w.heap.size + 1, 1 + k, none⟩ = some old := ⟨_, by rw [cellRow h1]; exact Array.getElem?_eq_getElem (by simp [hsz]; omega)⟩
      have hn := splice_next (noAdr false).cells.toList b k (by rw [HL.out]; exact hlt) (by rw [HL.out]; decide)
      have hs1 := rowSetCell h1 (1 + k) (.int .u8 ((b.getD k 0).toNat : Int))
      rw [hn] at hs1
      have H0 := hid h0
      have HS1 := hid hs1
      have HBx := hid hb
      have hbz := hb.size
      clear hsz hn hs1 h0 h1 hb
      generalize b.getD k 0 = x at e0 HS1
      go_wp2
      go_roundw
      case rel => exact ⟨k + 1, by omega, by go_num, (rowSetCell_far (by omega) _ _).trans H0.out, HS1.out, HBx.out.setCell (by simp) _⟩
      case measure => simp [intOf]; omega
    · obtain rfl : k = 4 := by omega
      rw [List.take_of_length_le (by rw [HL.out]; omega), HS.out] at h1
      go_wp2_with (first
        | refine wpList_load_row rfl 24 (.tmp 4) rfl (w.heap.size + 1) rfl _ (adr4 b).cells _ _ h1 Try.underlying24 rfl (infoA _) ?_
        | refine wpList_store_row rfl 24 (.tmp 2) (.tmp 32) rfl w.heap.size _ rfl rfl _ _ h0 (infoA _) rfl (Adr.one _) ?_)
      exact adr_ret2 (a := adr4 b) rfl rfl rfl (rowSetRow h0 _) ⟨rfl, belowSetRow hb (Nat.le_refl _) _⟩
end Go.Proofs.Ytlijgcmcpehplaa
