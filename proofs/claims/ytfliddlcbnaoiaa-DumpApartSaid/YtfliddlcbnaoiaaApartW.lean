/- New bytes: a slice that is made. Walk: a segment without what its line does not tell (the closure of DumpApart). Walk: the closure of DumpApart. Walk: the law DumpApart. -/
import Derived.Test.YtfliddlcbnaoiaaU8
import Derived.Test.YtfliddlcbnaoiaaBlk
import Derived.Laws.MakeOwn
import Derived.Test.YtfliddlcbnaoiaaDumS
import Derived.Test.YtfliddlcbnaoiaaByt12
import Derived.Deep.AppendLies
import Derived.Test.YtfliddlcbnaoiaaLinH
import Derived.Test.YtfliddlcbnaoiaaBuf
import Derived.Test.YtfliddlcbnaoiaaMay13
import Derived.Test.YtfliddlcbnaoiaaEqual
namespace Go.Proofs.Ytfliddlcbnaoiaa
set_option linter.unusedVariables false
set_option linter.unusedSimpArgs false
open Go.RowKit

theorem made8 (n : Nat) : madeCells (Value.int .u8 0).cells n = (by8 (List.replicate n 0)).toArray := by
  apply Array.ext
  · simp [size_madeCells, by8]
  · intro k h1 h2
    simp only [madeCells, by8, Value.cells]
    simp [Nat.mod_one]
    rfl
theorem make8_any (n : Nat) (w : World) (hn : n ≤ 1000000) : (Instr.makeSlice 28 (.int .i64 (n : Int)) (.int .i64 (n : Int))).run Try.prog w = .ok (.slice (some ⟨w.heap.size, 0, none⟩) n n) (w.alloc (.cells (by8 (List.replicate n 0)).toArray 5)) := by
  obtain ⟨i0, hi, hz0, hz1, hz2⟩ := info_parts info_u8
  have := run_makeSlice (P := Try.prog) w 28 5 i0 _ Try.underlying28 hi hz0 .i64 .i64 (n : Int) (n : Int) (by omega) (Int.le_refl _) (by rw [hz1]; simp; omega) (by rw [hz2]; omega) (by omega)
  rw [this, hz1]
  simp only [Int.toNat_natCast, Nat.mul_one]
  rw [made8]
end Go.Proofs.Ytfliddlcbnaoiaa
namespace Go.Proofs.Ytfliddlcbnaoiaa
set_option linter.unusedVariables false
set_option linter.unusedSimpArgs false
open Go.RowKit

theorem set_urg (s : SegM) : s.cells.setIfInBounds 6 (.int .u16 0) = ({ s with urg := 0 } : SegM).cells := by
  unfold SegM.cells
  simp [Array.setIfInBounds_append_left]
theorem set_ack (s : SegM) : s.cells.setIfInBounds 3 (.int .u32 0) = ({ s with ack := 0 } : SegM).cells := by
  unfold SegM.cells
  simp [Array.setIfInBounds_append_left]
theorem push_setA {α : Type} (a : Array α) (x y : α) : (a.push x).setIfInBounds a.size y = a.push y := by
  apply Array.ext
  · simp
  · intro k h1 h2
    have h3 : k < a.size + 1 := by simpa using h2
    by_cases hk : a.size = k
    · subst hk
      simp
    · have hlt : k < a.size := by omega
      rw [Array.getElem_push_lt hlt, Array.getElem_setIfInBounds_ne (by simp; omega) hk, Array.getElem_push_lt hlt]
theorem set_data (s : SegM) (h : s.o.mac.length = 12) (D : Option Addr) (dc : Nat) (d : List UInt8) : s.cells.setIfInBounds 31 (.slice D d.length dc) = ({ s with D := D, dc := dc, data := d } : SegM).cells := by
  have hz := s.o.size h
  unfold SegM.cells
  have hl : (#[Value.int .u16 (s.src : Int), .int .u16 (s.dst : Int), .int .u32 (s.seq : Int), .int .u32 (s.ack : Int), .int .u8 (s.flags : Int), .int .u16 (s.win : Int), .int .u16 (s.urg : Int)] ++ s.o.cells).size = 31 := by simp [hz]
  show (_ ++ #[_]).setIfInBounds 31 _ = _ ++ #[_]
  rw [Array.append_singleton, Array.append_singleton, ← hl]
  exact push_setA _ _ _
end Go.Proofs.Ytfliddlcbnaoiaa
namespace Go.Proofs.Ytfliddlcbnaoiaa
set_option linter.unusedVariables false
set_option linter.unusedSimpArgs false
open Go.RowKit
theorem bare_pos (s : SegM) (D : Option Addr) (dc : Nat) (h : s.flags / 16 % 2 = 1) : bareS s D dc = { s with urg := 0, D := D, dc := dc, data := List.replicate s.data.length 0 } := by
  unfold bareS
  rw [if_pos h]
theorem bare_neg (s : SegM) (D : Option Addr) (dc : Nat) (h : ¬ s.flags / 16 % 2 = 1) : bareS s D dc = { s with urg := 0, D := D, dc := dc, data := List.replicate s.data.length 0, ack := 0 } := by
  unfold bareS
  rw [if_neg h]
theorem bare_ok (s : SegM) {w W : World} {b : Nat} (hs : SegOk w s) (hdl : s.data.length ≤ 3000) (hlb : Below w.heap.size w W) (hn : W.heap[b]? = some (.cells (by8 (List.replicate s.data.length 0)).toArray 5 (0, 0))) : SegOk W (bareS s (some ⟨b, 0, none⟩) s.data.length) := by
  have h := hs.below hlb
  refine ⟨h.src, h.dst, h.seq, ?_, h.flags, h.win, (by decide : (0 : Nat) < 65536), h.o, ?_⟩
  · show (if s.flags / 16 % 2 = 1 then s.ack else 0) < 4294967296
    split
    · exact h.ack
    · decide
  · show RB W (.slice _ (List.replicate s.data.length (0 : UInt8)).length s.data.length) (List.replicate s.data.length 0)
    rw [List.length_replicate]
    exact RB.lit hn (by simp) (by omega) rfl
set_option maxRecDepth 20000 in
set_option maxHeartbeats 4000000 in
theorem bare_any (s : SegM) (w : World) (hs : SegOk w s) (hdl : s.data.length ≤ 3000) :
    Calls Try.prog 8 #[.agg s.cells] w fun e w' => ∃ D dc, e = .returned (.agg (bareS s D dc).cells) ∧ SegOk w' (bareS s D dc) ∧ Below w.heap.size w w' := by
  have HOC := hid (fun (W : World) (g : Nat) (h : W.heap[g]? = some (.cells s.cells 30 (0, 0))) => seg_cells h hs.o.mac)
  have HFZ := hid (fun (W : World) (g k : Nat) (h : W.heap[g]? = some (.cells s.cells 30 (0, 0))) => Lib.frozen_of_heap h k)
  have HMK := fun W => make8_any s.data.length W (by omega)
  obtain ⟨B, hB⟩ : ∃ B, w.heap.size = B := ⟨_, rfl⟩
  have HB := hid hB
  clear hB
  go_enter Try.func8, Try.ntmps8
  go_upto_region 1 with (first
    | ((with_reducible refine at_slot 1 ?_); refine wpList_boxF rfl 30 (.tmp 0) rfl s.cells rfl ?_; intro w1 hx1 hb1 hz1; rw [HB.out] at hx1 hb1 hz1 ⊢)
    | ((with_reducible refine at_slot 2 ?_); refine wpList_allocF rfl 30 rfl _ alloc_noSeg ?_; intro w2 hx2 hb2 hz2; rw [hz1] at hx2 hb2 ⊢; have hy1 := (hb2.block _ (by omega)).trans hx1))
  obtain ⟨f0, f1, f2, f3, f4, f5, f6, f7⟩ := HOC.out w2 B hy1
  have z6 := HFZ.out w2 B 6 hy1
  have z31 := HFZ.out w2 B 31 hy1
  clear f0 f1 f2 f3 f4 f5
  go_region_law (first | go_simp)
  all_goals
    have hy6 := nw0 _ (.cells (by8 (List.replicate s.data.length 0)).toArray 5) (rowSetCell (rowSetCell hy1 6 (.int .u16 0)) 31 (.slice (some ⟨B + 1 + 1, 0, none⟩) s.data.length s.data.length))
    have hr6 := nw0 _ (.cells (by8 (List.replicate s.data.length 0)).toArray 5) (((rowSetCell_far (b := B) (by omega) 31 (.slice (some ⟨B + 1 + 1, 0, none⟩) s.data.length s.data.length)).trans (rowSetCell_far (b := B) (by omega) 6 (.int .u16 0))).trans hx2)
    have hlb := hid (below_drewN (below_alloc ((((hb1.trans (hb2.mono (by omega))).setCell (p := ⟨B, 6, none⟩) (Nat.le_refl _) (.int .u16 0)).setCell (p := ⟨B, 31, none⟩) (Nat.le_refl _) (.slice (some ⟨B + 1 + 1, 0, none⟩) s.data.length s.data.length))) (.cells (by8 (List.replicate s.data.length 0)).toArray 5) (Nat.le_of_eq HB.out.symm)) 1)
    have e6 : (s.cells.setIfInBounds 6 (.int .u16 0)).setIfInBounds 31 (.slice (some ⟨B + 1 + 1, 0, none⟩) s.data.length s.data.length) = ({ s with urg := 0, D := some ⟨B + 1 + 1, 0, none⟩, dc := s.data.length, data := List.replicate s.data.length 0 } : SegM).cells := by
      rw [set_urg]
      have := set_data { s with urg := 0 } hs.o.mac (some ⟨B + 1 + 1, 0, none⟩) s.data.length (List.replicate s.data.length 0)
      rw [List.length_replicate] at this
      exact this
    rw [e6] at hy6
    have hn6 : (((w2.setCell ⟨B, 6, none⟩ (.int .u16 0)).setCell ⟨B, 31, none⟩ (.slice (some ⟨B + 1 + 1, 0, none⟩) s.data.length s.data.length)).alloc (.cells (by8 (List.replicate s.data.length 0)).toArray 5)).heap[B + 1 + 1]? = some (.cells (by8 (List.replicate s.data.length 0)).toArray 5 (0, 0)) := by
      have := nw1 ((w2.setCell ⟨B, 6, none⟩ (.int .u16 0)).setCell ⟨B, 31, none⟩ (.slice (some ⟨B + 1 + 1, 0, none⟩) s.data.length s.data.length)) (.cells (by8 (List.replicate s.data.length 0)).toArray 5)
      rw [size_setCell, size_setCell, hz2, hz1] at this
      exact this
    clear hx1 hx2 hb1 hb2 hz1 hz2 hy1 e6 f6 f7 z6 z31 HMK
    obtain ⟨s6, hs6⟩ : ∃ s6 : SegM, ({ s with urg := 0, D := some ⟨B + 1 + 1, 0, none⟩, dc := s.data.length, data := List.replicate s.data.length 0 } : SegM) = s6 := ⟨_, rfl⟩
    have hbit : (bits .and .u8 (s6.flags : Int) 16 == 0) = !decide (s6.flags / 16 % 2 = 1) := by
      have : ∀ f : Fin 256, (bits .and .u8 ((f.val : Nat) : Int) 16 == 0) = !decide (f.val / 16 % 2 = 1) := by decide +kernel
      have hf : s6.flags < 256 := by rw [← hs6]; exact hs.flags
      exact this ⟨s6.flags, hf⟩
    have hmac : s6.o.mac.length = 12 := by rw [← hs6]; exact hs.o.mac
    rw [hs6] at hy6
    have hy7 := hid hy6
    have hr7 := hid hr6
    have hn7 := hid hn6
    have HS6 := hid hs6
    have HIS2 := hid hmac
    have HIS := hid (show (Try.prog.info? 30).map (·.size) = some s6.cells.size by rw [s6.size hmac]; kernel_rfl)
    obtain ⟨c0, c1, c2, c3, c4, c5, c6, c7⟩ := seg_cells hy6 hmac
    have z3 := Lib.frozen_of_heap hy6 3
    generalize hW : World.alloc _ _ = W at hy7 hr7 hn7 hlb c0 c1 c2 c3 c4 c5 c6 c7 z3 ⊢
    clear hy6 hr6 hn6 hs6 hW c0 c1 c2 c5 c6 c7
    replace c3 : W.drew.cell? ⟨B, 3, none⟩ = _ := c3
    replace c4 : W.drew.cell? ⟨B, 4, none⟩ = _ := c4
    replace z3 : W.drew.frozen? ⟨B, 3, none⟩ = false := z3
    cases ht : decide (s6.flags / 16 % 2 = 1)
    · rw [ht] at hbit
      have hy8 := rowSetCell hy7.out 3 (.int .u32 0)
      rw [set_ack] at hy8
      obtain ⟨s7, hs7⟩ : ∃ s7 : SegM, ({ s6 with ack := 0 } : SegM) = s7 := ⟨_, rfl⟩
      rw [hs7] at hy8
      have hr8 := (rowSetCell_far (b := B) (by omega) 3 (.int .u32 0)).trans hr7.out
      have hn8 := (rowSetCell_far (b := B) (by omega) 3 (.int .u32 0)).trans hn7.out
      have hmac7 : s7.o.mac.length = 12 := by rw [← hs7]; exact HIS2.out
      have hone := s7.one
      have hsz : noSeg.cells.size = s7.cells.size := by rw [s7.size hmac7]; rfl
      have hy9 := hid hy8
      have hr9 := hid hr8
      have hn9 := hid hn8
      have HS7 := hid hs7
      have HT := hid ht
      have HIS7 := hid (show (Try.prog.info? 30).map (·.size) = some s7.cells.size by rw [s7.size hmac7]; kernel_rfl)
      clear hy8 hr8 hn8 hs7 ht
      go_upto_region 4 with fail
      go_wp2_with (first
        | ((with_reducible refine at_slot 14 ?_); refine wpList_load_row rfl 30 (.tmp 1) rfl B rfl _ s7.cells _ _ hy9.out Try.underlying30 rfl HIS7.out ?_)
        | ((with_reducible refine at_store 2 14 ?_); refine wpList_rowF rfl 30 (.tmp 2) (.tmp 14) rfl (B + 1) 30 _ s7.cells rfl rfl hr9.out HIS7.out hsz hone ?_; intro w9 h9 m9 z9))
      simp only [Act.put, List.setIfInBounds_toArray, List.set_cons_zero, List.set_cons_succ]
      refine ret_cell1 (p := 2) rfl rfl h9 Try.underlying30 rfl HIS7.out ?_
      have hbe := Mod.below (hlb.out.setCell (p := ⟨B, 3, none⟩) (Nat.le_refl _) (.int .u32 0)) ⟨m9.os, m9.tape, m9.output, m9.size, m9.block⟩ (Nat.le_of_eq HB.out.symm) (by intro k hk; simp at hk; omega)
      refine ⟨some ⟨B + 1 + 1, 0, none⟩, s.data.length, ?_, bare_ok s hs hdl (by rw [HB.out]; exact hbe) (m9.keeps hn9.out (by simp)), by rw [HB.out]; exact hbe⟩
      have hf : ¬ s.flags / 16 % 2 = 1 := by have := of_decide_eq_false HT.out; rw [← HS6.out] at this; exact this
      rw [bare_neg s _ _ hf, ← HS7.out, ← HS6.out]
    · rw [ht] at hbit
      have HT := hid ht
      clear ht
      have hone := s6.one
      have hsz : noSeg.cells.size = s6.cells.size := by rw [s6.size HIS2.out]; rfl
      go_wp2_with (first
        | ((with_reducible refine at_slot 14 ?_); refine wpList_load_row rfl 30 (.tmp 1) rfl B rfl _ s6.cells _ _ hy7.out Try.underlying30 rfl HIS.out ?_)
        | ((with_reducible refine at_store 2 14 ?_); refine wpList_rowF rfl 30 (.tmp 2) (.tmp 14) rfl (B + 1) 30 _ s6.cells rfl rfl hr7.out HIS.out hsz hone ?_; intro w9 h9 m9 z9))
      simp only [Act.put, List.setIfInBounds_toArray, List.set_cons_zero, List.set_cons_succ]
      refine ret_cell1 (p := 2) rfl rfl h9 Try.underlying30 rfl HIS.out ?_
      have hbe := Mod.below hlb.out ⟨m9.os, m9.tape, m9.output, m9.size, m9.block⟩ (Nat.le_of_eq HB.out.symm) (by intro k hk; simp at hk; omega)
      refine ⟨some ⟨B + 1 + 1, 0, none⟩, s.data.length, ?_, bare_ok s hs hdl (by rw [HB.out]; exact hbe) (m9.keeps hn7.out (by simp)), by rw [HB.out]; exact hbe⟩
      have hf : s.flags / 16 % 2 = 1 := by have := of_decide_eq_true HT.out; rw [← HS6.out] at this; exact this
      rw [bare_pos s _ _ hf, ← HS6.out]
end Go.Proofs.Ytfliddlcbnaoiaa
namespace Go.Proofs.Ytfliddlcbnaoiaa
set_option linter.unusedVariables false
set_option linter.unusedSimpArgs false
open Go.RowKit

theorem kept_G {s : SegM} (h : mayG s = true) : KeptS s := by
  unfold mayG mayO at h
  simp only [Bool.and_eq_true, decide_eq_true_eq] at h
  exact kept_S s h.1.2 h.1.1.1.1.1
set_option maxRecDepth 20000 in
set_option maxHeartbeats 8000000 in
theorem lawApart_any (s t : SegM) (w : World) (hs : SegOk w s) (ht : SegOk w t) :
    Calls Try.prog 3 #[.agg s.cells, .agg t.cells] w fun e w' => e = .returned (.bool true) ∧ Below w.heap.size w w' := by
  have F1 := hid (fun W (h : Below w.heap.size w W) => far32_any s W (hs.below h))
  have F2 := hid (fun W (h : Below w.heap.size w W) => far32_any t W (ht.below h))
  have M1 := hid (fun (hsl : s.o.sacks.length ≤ 100) W (h : Below w.heap.size w W) => may13_any s W (hs.below h) (by omega))
  have M2 := hid (fun (hsl : t.o.sacks.length ≤ 100) W (h : Below w.heap.size w W) => may13_any t W (ht.below h) (by omega))
  have G1 := hid (fun (hsl : s.o.sacks.length ≤ 100) W (h : Below w.heap.size w W) => segment_any s W (hs.below h) hsl)
  have G2 := hid (fun (hsl : t.o.sacks.length ≤ 100) W (h : Below w.heap.size w W) => segment_any t W (ht.below h) hsl)
  have C1 := hid (fun (hsl : s.data.length ≤ 3000) W (h : Below w.heap.size w W) => bare_any s W (hs.below h) hsl)
  have C2 := hid (fun (hsl : t.data.length ≤ 3000) W (h : Below w.heap.size w W) => bare_any t W (ht.below h) hsl)
  have HI1 := hid (info_seg s hs.o.mac)
  have HI2 := hid (info_seg t ht.o.mac)
  have HAP := hid (fun (m1 : mayG s = true) (m2 : mayG t = true) D dc E ec => apart_iff s t (kept_G m1) (kept_G m2) hs.o.mac ht.o.mac D E dc ec)
  generalize hcs : s.cells = cs at F1 M1 G1 C1 HI1 ⊢
  generalize hct : t.cells = ct at F2 M2 G2 C2 HI2 ⊢
  clear hcs hct hs ht
  have hb0 := hid (Below.refl w.heap.size w)
  obtain ⟨B, hB⟩ : ∃ x, w.heap.size = x := ⟨_, rfl⟩
  rw [hB] at F1 F2 M1 M2 G1 G2 C1 C2 hb0
  have HB := hid hB
  clear hB
  obtain ⟨f1, hf1⟩ : ∃ t, (decide (3000 < s.data.length) || decide (100 < s.o.sacks.length)) = t := ⟨_, rfl⟩
  obtain ⟨f2, hf2⟩ : ∃ t', (decide (3000 < t.data.length) || decide (100 < t.o.sacks.length)) = t' := ⟨_, rfl⟩
  rw [hf1] at F1
  rw [hf2] at F2
  have HF1 := hid hf1
  have HF2 := hid hf2
  clear hf1 hf2
  have ST : ∀ W, Below B w W → B ≤ W.heap.size := fun W h => by have := h.size; have := HB.out; omega
  have HST := hid ST
  clear ST
  have ALIVE := hid (fun W (h : Below B w W) => (alive32_any W).mono (fun e w' (h' : e = .returned (.bool true) ∧ Below W.heap.size W w') => (⟨h'.1, h.trans (h'.2.mono (HST.out W h))⟩ : e = .returned (.bool true) ∧ Below B w w')))
  go_enter Try.func3, Try.ntmps3
  go_wp2_with (first
    | ((with_reducible refine at_slot 2 ?_); refine wpList_boxF rfl 30 (.tmp 0) rfl cs rfl ?_; intro w1 hx1 hb1 hz1; rw [HB.out] at hx1 hb1 hz1 ⊢)
    | ((with_reducible refine at_slot 3 ?_); refine wpList_boxF rfl 30 (.tmp 1) rfl ct rfl ?_; intro w2 hx2 hb2 hz2; rw [hz1] at hx2 hb2 hz2 ⊢; have hy1 := (hb2.block _ (by omega)).trans hx1; have HB2 := hid (hb1.trans (hb2.mono (by omega))); have X := hid hy1; have Y := hid hx2; clear hx1 hy1 hb1 hz1 hx2 hb2 hz2)
    | ((with_reducible refine at_slot 6 ?_); refine wpList_load_row rfl 30 (.tmp 2) rfl B rfl _ cs _ _ X.out Try.underlying30 rfl HI1.out ?_))
  (with_reducible refine Calls.mono (F1.out _ HB2.out) ?_)
  rintro e w3 ⟨rfl, hb3⟩
  replace X := hid ((hb3.block _ (Array.getElem?_eq_some_iff.1 X.out).1).trans X.out)
  replace Y := hid ((hb3.block _ (Array.getElem?_eq_some_iff.1 Y.out).1).trans Y.out)
  have HB3 := hid (HB2.out.trans (hb3.mono (HST.out _ HB2.out)))
  clear hb3 HB2
  cases f1
  case true =>
    go_wp2_with fail
    (with_reducible refine Calls.mono (ALIVE.out _ HB3.out) ?_)
    rintro e w4 ⟨rfl, hb4⟩
    go_wp2_with fail
    go_ret
    exact ⟨rfl, by rw [HB.out]; exact hb4⟩
  have S1 := hid (of_decide_eq_false (Bool.or_eq_false_iff.1 HF1.out).2)
  have D1 := hid (of_decide_eq_false (Bool.or_eq_false_iff.1 HF1.out).1)
  go_wp2_with ((with_reducible refine at_slot 9 ?_); refine wpList_rowG rfl 30 (.tmp 3) rfl (B + 1) rfl _ ct _ Y.out Try.underlying30 rfl HI2.out ?_)
  (with_reducible refine Calls.mono (F2.out _ HB3.out) ?_)
  rintro e w4 ⟨rfl, hb4⟩
  replace X := hid ((hb4.block _ (Array.getElem?_eq_some_iff.1 X.out).1).trans X.out)
  replace Y := hid ((hb4.block _ (Array.getElem?_eq_some_iff.1 Y.out).1).trans Y.out)
  have HB4 := hid (HB3.out.trans (hb4.mono (HST.out _ HB3.out)))
  clear hb4 HB3
  cases f2
  case true =>
    go_wp2_with fail
    (with_reducible refine Calls.mono (ALIVE.out _ HB4.out) ?_)
    rintro e w5 ⟨rfl, hb5⟩
    go_wp2_with fail
    go_ret
    exact ⟨rfl, by rw [HB.out]; exact hb5⟩
  have S2 := hid (of_decide_eq_false (Bool.or_eq_false_iff.1 HF2.out).2)
  have D2 := hid (of_decide_eq_false (Bool.or_eq_false_iff.1 HF2.out).1)
  obtain ⟨g1, hg1⟩ : ∃ x, mayG s = x := ⟨_, rfl⟩
  rw [hg1] at M1 HAP
  obtain ⟨g2, hg2⟩ : ∃ x, mayG t = x := ⟨_, rfl⟩
  rw [hg2] at M2 HAP
  clear hg1 hg2
  go_wp2_with ((with_reducible refine at_slot 13 ?_); refine wpList_rowG rfl 30 (.tmp 2) rfl B rfl _ cs _ X.out Try.underlying30 rfl HI1.out ?_)
  (with_reducible refine Calls.mono (M1.out (by have := S1.out; omega) _ HB4.out) ?_)
  rintro e w5 ⟨rfl, hb5⟩
  replace X := hid ((hb5.block _ (Array.getElem?_eq_some_iff.1 X.out).1).trans X.out)
  replace Y := hid ((hb5.block _ (Array.getElem?_eq_some_iff.1 Y.out).1).trans Y.out)
  have HB5 := hid (HB4.out.trans (hb5.mono (HST.out _ HB4.out)))
  clear hb5 HB4
  cases g1
  case false =>
    go_wp2_with fail
    (with_reducible refine Calls.mono (ALIVE.out _ HB5.out) ?_)
    rintro e w6 ⟨rfl, hb6⟩
    go_wp2_with fail
    go_ret
    exact ⟨rfl, by rw [HB.out]; exact hb6⟩
  go_wp2_with ((with_reducible refine at_slot 18 ?_); refine wpList_rowG rfl 30 (.tmp 3) rfl (B + 1) rfl _ ct _ Y.out Try.underlying30 rfl HI2.out ?_)
  (with_reducible refine Calls.mono (M2.out (by have := S2.out; omega) _ HB5.out) ?_)
  rintro e w6 ⟨rfl, hb6⟩
  replace X := hid ((hb6.block _ (Array.getElem?_eq_some_iff.1 X.out).1).trans X.out)
  replace Y := hid ((hb6.block _ (Array.getElem?_eq_some_iff.1 Y.out).1).trans Y.out)
  have HB6 := hid (HB5.out.trans (hb6.mono (HST.out _ HB5.out)))
  clear hb6 HB5
  cases g2
  case false =>
    go_wp2_with fail
    (with_reducible refine Calls.mono (ALIVE.out _ HB6.out) ?_)
    rintro e w7 ⟨rfl, hb7⟩
    go_wp2_with fail
    go_ret
    exact ⟨rfl, by rw [HB.out]; exact hb7⟩
  obtain ⟨q, hq⟩ : ∃ x, decide (segN s = segN t) = x := ⟨_, rfl⟩
  have HSA := hid (fun D dc E ec => show sameS (bareS s D dc) (bareS t E ec) = q by rw [← hq, Bool.eq_iff_iff, decide_eq_true_eq]; exact (HAP.out (by simp) (by simp) D dc E ec).symm)
  have HEQ := hid ((strOf_beq (segN s) (segN t)).trans hq)
  have HQQ := hid (show (q == q) = true from beq_self_eq_true q)
  clear hq HAP
  have g1 := fun W h => G1.out (by have := S1.out; omega) W h
  have g2 := fun W h => G2.out (by have := S2.out; omega) W h
  have k1 := fun W h => C1.out (by have := D1.out; omega) W h
  have k2 := fun W h => C2.out (by have := D2.out; omega) W h
  generalize hls : strOf (segN s) = ls at HEQ g1
  generalize hlt : strOf (segN t) = lt at HEQ g2
  clear hls hlt
  go_upto_region 4 with fail
  have hS0 : ({ w6 with drawn := w6.drawn + 1 } : World).heap[B]? = some (.cells cs 30 (0, 0)) ∧ ({ w6 with drawn := w6.drawn + 1 } : World).heap[B + 1]? = some (.cells ct 30 (0, 0)) := ⟨X.out, Y.out⟩
  refine wp_region_hand (fun W' => W'.heap[B]? = some (.cells cs 30 (0, 0)) ∧ W'.heap[B + 1]? = some (.cells ct 30 (0, 0))) (by kernel_rfl) hS0 ?_
  intro hS
  have hb : Below B w ({ w6 with drawn := w6.drawn + 1 } : World) := below_drewN HB6.out 1
  clear hS0 X Y HB6
  generalize ({ w6 with drawn := w6.drawn + 1 } : World) = u at hS hb ⊢
  refine wpAnyH_take (i := 0) (oi := ⟨some 23, _, _, _, _, _⟩) rfl (by kernel_rfl) (by kernel_rfl) (by kernel_rfl) (fun _ _ _ h => h) (yields_row 30 (.tmp 2) rfl (by rfl) ⟨B, 0, none⟩ rfl cs _ (fun W' hS' => cells_part hS'.1 (o := 0) (fun j u h => by rw [Nat.zero_add]; exact h)) Try.underlying30 rfl HI1.out) hS ?_
  try simp only [Act.put, List.setIfInBounds_toArray, List.set_cons_zero, List.set_cons_succ]
  refine wpAnyH_take (i := 2) (oi := ⟨some 25, _, _, _, _, _⟩) rfl (by kernel_rfl) (by kernel_rfl) (by kernel_rfl) (fun _ _ _ h => h) (yields_row 30 (.tmp 3) rfl (by rfl) ⟨B + 1, 0, none⟩ rfl ct _ (fun W' hS' => cells_part hS'.2 (o := 0) (fun j u h => by rw [Nat.zero_add]; exact h)) Try.underlying30 rfl HI2.out) hS ?_
  try simp only [Act.put, List.setIfInBounds_toArray, List.set_cons_zero, List.set_cons_succ]
  refine wpAnyH_take (i := 5) (oi := ⟨some 28, _, _, _, _, _⟩) (v := ?_) rfl (by kernel_rfl) (by kernel_rfl) (by kernel_rfl) (fun _ _ _ h => h) (Or.inl ⟨by rfl, ?_⟩) hS ?_
  rotate_left 1
  focus ((intro W' hS'; go_simp) <;> with_reducible rfl)
  try simp only [Act.put, List.setIfInBounds_toArray, List.set_cons_zero, List.set_cons_succ]
  refine wpAnyH_take (i := 6) (oi := ⟨some 29, _, _, _, _, _⟩) rfl (by kernel_rfl) (by kernel_rfl) (by kernel_rfl) (fun _ _ _ h => h) (yields_row 30 (.tmp 2) rfl (by rfl) ⟨B, 0, none⟩ rfl cs _ (fun W' hS' => cells_part hS'.1 (o := 0) (fun j u h => by rw [Nat.zero_add]; exact h)) Try.underlying30 rfl HI1.out) hS ?_
  try simp only [Act.put, List.setIfInBounds_toArray, List.set_cons_zero, List.set_cons_succ]
  refine wpAnyH_take (i := 8) (oi := ⟨some 31, _, _, _, _, _⟩) (v := ?_) rfl (by kernel_rfl) (by kernel_rfl) (by kernel_rfl) (fun _ _ _ h => h) (Or.inl ⟨by rfl, ?_⟩) hS ?_
  rotate_left 1
  focus ((intro W' hS'; go_simp) <;> with_reducible rfl)
  try simp only [Act.put, List.setIfInBounds_toArray, List.set_cons_zero, List.set_cons_succ]
  refine wpAnyH_take (i := 9) (oi := ⟨some 32, _, _, _, _, _⟩) rfl (by kernel_rfl) (by kernel_rfl) (by kernel_rfl) (fun _ _ _ h => h) (yields_row 30 (.tmp 3) rfl (by rfl) ⟨B + 1, 0, none⟩ rfl ct _ (fun W' hS' => cells_part hS'.2 (o := 0) (fun j u h => by rw [Nat.zero_add]; exact h)) Try.underlying30 rfl HI2.out) hS ?_
  try simp only [Act.put, List.setIfInBounds_toArray, List.set_cons_zero, List.set_cons_succ]
  refine anyH_one (i := 1) (by kernel_rfl) ⟨some 24, _, _, _, _, _⟩ rfl (by rfl) ?_
  go_simp
  with_reducible refine Calls.mono (g1 _ hb) ?_
  rintro e u1 ⟨rfl, hb1⟩
  replace hS := And.intro ((hb1.block _ (Array.getElem?_eq_some_iff.1 hS.1).1).trans hS.1) ((hb1.block _ (Array.getElem?_eq_some_iff.1 hS.2).1).trans hS.2)
  replace hb := hb.trans (hb1.mono (HST.out _ hb))
  clear hb1
  refine ⟨hS, ?_⟩
  try simp only [Act.put, List.setIfInBounds_toArray, List.set_cons_zero, List.set_cons_succ]
  refine anyH_one (i := 3) (by kernel_rfl) ⟨some 26, _, _, _, _, _⟩ rfl (by rfl) ?_
  go_simp
  with_reducible refine Calls.mono (g2 _ hb) ?_
  rintro e u2 ⟨rfl, hb2⟩
  replace hS := And.intro ((hb2.block _ (Array.getElem?_eq_some_iff.1 hS.1).1).trans hS.1) ((hb2.block _ (Array.getElem?_eq_some_iff.1 hS.2).1).trans hS.2)
  replace hb := hb.trans (hb2.mono (HST.out _ hb))
  clear hb2
  refine ⟨hS, ?_⟩
  try simp only [Act.put, List.setIfInBounds_toArray, List.set_cons_zero, List.set_cons_succ]
  refine wpAnyH_take (i := 4) (oi := ⟨some 27, _, _, _, _, _⟩) (v := ?_) rfl (by kernel_rfl) (by kernel_rfl) (by kernel_rfl) (fun _ _ _ h => h) (Or.inl ⟨by rfl, ?_⟩) hS ?_
  rotate_left 1
  focus ((intro W' hS'; have q1 := HEQ.out; go_simp) <;> with_reducible rfl)
  try simp only [Act.put, List.setIfInBounds_toArray, List.set_cons_zero, List.set_cons_succ]
  refine anyH_one (i := 7) (by kernel_rfl) ⟨some 30, _, _, _, _, _⟩ rfl (by rfl) ?_
  go_simp
  with_reducible refine Calls.mono (k1 _ hb) ?_
  rintro e u3 ⟨D, dc, rfl, ok1, hb3⟩
  replace hS := And.intro ((hb3.block _ (Array.getElem?_eq_some_iff.1 hS.1).1).trans hS.1) ((hb3.block _ (Array.getElem?_eq_some_iff.1 hS.2).1).trans hS.2)
  replace hb := hb.trans (hb3.mono (HST.out _ hb))
  clear hb3
  refine ⟨hS, ?_⟩
  try simp only [Act.put, List.setIfInBounds_toArray, List.set_cons_zero, List.set_cons_succ]
  refine anyH_one (i := 10) (by kernel_rfl) ⟨some 33, _, _, _, _, _⟩ rfl (by rfl) ?_
  go_simp
  with_reducible refine Calls.mono (k2 _ hb) ?_
  rintro e u4 ⟨E, ec, rfl, ok2, hb4⟩
  replace ok1 := ok1.below hb4
  replace hS := And.intro ((hb4.block _ (Array.getElem?_eq_some_iff.1 hS.1).1).trans hS.1) ((hb4.block _ (Array.getElem?_eq_some_iff.1 hS.2).1).trans hS.2)
  replace hb := hb.trans (hb4.mono (HST.out _ hb))
  clear hb4
  refine ⟨hS, ?_⟩
  try simp only [Act.put, List.setIfInBounds_toArray, List.set_cons_zero, List.set_cons_succ]
  refine anyH_one (i := 11) (by kernel_rfl) ⟨some 34, _, _, _, _, _⟩ rfl (by rfl) ?_
  go_simp
  with_reducible refine Calls.mono (same13_any _ _ _ ok1 ok2) ?_
  rintro e u5 ⟨rfl, hb5⟩
  rw [HSA.out D dc E ec]
  clear ok1 ok2
  replace hS := And.intro ((hb5.block _ (Array.getElem?_eq_some_iff.1 hS.1).1).trans hS.1) ((hb5.block _ (Array.getElem?_eq_some_iff.1 hS.2).1).trans hS.2)
  replace hb := hb.trans (hb5.mono (HST.out _ hb))
  clear hb5
  refine ⟨hS, ?_⟩
  try simp only [Act.put, List.setIfInBounds_toArray, List.set_cons_zero, List.set_cons_succ]
  refine wpAnyH_take (i := 12) (oi := ⟨some 35, _, _, _, _, _⟩) (v := ?_) rfl (by kernel_rfl) (by kernel_rfl) (by kernel_rfl) (fun _ _ _ h => h) (Or.inl ⟨by rfl, ?_⟩) hS ?_
  rotate_left 1
  focus ((intro W' hS'; have q1 := HQQ.out; go_simp) <;> with_reducible rfl)
  try simp only [Act.put, List.setIfInBounds_toArray, List.set_cons_zero, List.set_cons_succ]
  refine wpAnyH_take (i := 13) (oi := ⟨some 36, _, _, _, _, _⟩) (v := ?_) rfl (by kernel_rfl) (by kernel_rfl) (by kernel_rfl) (fun _ _ _ h => h) (Or.inl ⟨by rfl, ?_⟩) hS ?_
  rotate_left 1
  focus ((intro W' hS'; go_simp) <;> with_reducible rfl)
  try simp only [Act.put, List.setIfInBounds_toArray, List.set_cons_zero, List.set_cons_succ]
  refine anyH_one (i := 14) (by kernel_rfl) ⟨some 37, _, _, _, _, _⟩ rfl (by rfl) ?_
  go_simp
  with_reducible refine Calls.mono (alive32_any _) ?_
  rintro e u6 ⟨rfl, hb6⟩
  replace hS := And.intro ((hb6.block _ (Array.getElem?_eq_some_iff.1 hS.1).1).trans hS.1) ((hb6.block _ (Array.getElem?_eq_some_iff.1 hS.2).1).trans hS.2)
  replace hb := hb.trans (hb6.mono (HST.out _ hb))
  clear hb6
  refine ⟨hS, ?_⟩
  try simp only [Act.put, List.setIfInBounds_toArray, List.set_cons_zero, List.set_cons_succ]
  refine wpAnyH_take (i := 15) (oi := ⟨some 38, _, _, _, _, _⟩) (v := ?_) rfl (by kernel_rfl) (by kernel_rfl) (by kernel_rfl) (fun _ _ _ h => h) (Or.inl ⟨by rfl, ?_⟩) hS ?_
  rotate_left 1
  focus ((intro W' hS'; go_simp) <;> with_reducible rfl)
  try simp only [Act.put, List.setIfInBounds_toArray, List.set_cons_zero, List.set_cons_succ]
  refine wpAnyH_take (i := 16) (oi := ⟨some 4, _, _, _, _, _⟩) (v := ?_) rfl (by kernel_rfl) (by kernel_rfl) (by kernel_rfl) (fun _ _ _ h => h) (Or.inl ⟨by rfl, ?_⟩) hS ?_
  rotate_left 1
  focus ((intro W' hS'; go_simp) <;> with_reducible rfl)
  try simp only [Act.put, List.setIfInBounds_toArray, List.set_cons_zero, List.set_cons_succ]
  refine wpAnyH_done (by kernel_rfl) ?_ _
  go_wp2_with fail
  go_ret
  exact ⟨rfl, by rw [HB.out]; exact hb⟩
end Go.Proofs.Ytfliddlcbnaoiaa
