/- Walk: the law's alive, layer 11. -/
import Derived.Test.YtlijgcmcpehplaaRLay6
import Derived.Test.YtlijgcmcpehplaaRWrap6
namespace Go.Proofs.Ytlijgcmcpehplaa
set_option linter.unusedVariables false
set_option linter.unusedSimpArgs false
open Go.RowKit

def pA6 : Pkt := ⟨noAdr true, noAdr true, 6, 2, 0, true, false, 0, [97, 98]⟩
theorem pA6_ok : pA6.Ok := ⟨by decide, by decide⟩
theorem build_adrA : ∀ w, (Instr.build 24 #[(0, .bool true)]).run Try.prog w = .ok (.agg (noAdr true).cells) w := by intro w; kernel_rfl
theorem build_pA6 (g : Nat) : ∀ w, (Instr.build 28 #[(0, .agg (noAdr true).cells), (1, .agg (noAdr true).cells), (2, .int .u8 6), (3, .int .u8 2), (5, .bool true), (8, .slice (some ⟨g, 0, none⟩) 2 2)]).run Try.prog w = .ok (.agg (pA6.cells (.slice (some ⟨g, 0, none⟩) 2 2))) w := by intro w; kernel_rfl
theorem layA6 : (layR pA6).1.length = 42 ∧ (layR pA6).2 = 0 := by decide +kernel
theorem wrapA6 : (wrap6 (layR pA6).1 60 [0, 0, 0, 0, 0, 0]).1.length = 50 ∧ (wrap6 (layR pA6).1 60 [0, 0, 0, 0, 0, 0]).2 = 0 := by decide +kernel
theorem parseA6 : sameP pA6 (parse6 (wrap6 (layR pA6).1 60 [0, 0, 0, 0, 0, 0]).1).1 = true ∧ (parse6 (wrap6 (layR pA6).1 60 [0, 0, 0, 0, 0, 0]).1).2 = 0 := by decide +kernel
/-- Bytes whose block is older than the one that has turned. -/
theorem RB.mod' {w w' : World} {v : Value} {xs : List UInt8} {g : Nat} (h : RB w v xs) (hl : ∀ A m c, v = .slice (some A) m c → 0 < m → A.block < g) (hm : Mod [g] w w') : RB w' v xs := by
  obtain ⟨A, c, rfl, r⟩ := h
  refine ⟨A, c, rfl, r.len, r.cap, r.top, fun k u hu => ?_⟩
  obtain ⟨ad, rfl, hc⟩ := r.at_ k u hu
  refine ⟨ad, rfl, hm.cell hc ?_⟩
  rw [add_block]
  have h1 := (List.getElem?_eq_some_iff.1 hu).1
  rw [by8_length] at h1
  have := hl ad _ _ rfl (by omega)
  simp
  omega
theorem make6 : ∀ w, (Instr.makeSlice 26 (.int .i64 6) (.int .i64 6)).run Try.prog w = .ok (.slice (some ⟨w.heap.size, 0, none⟩) 6 6) (w.alloc (.cells #[.int .u8 0, .int .u8 0, .int .u8 0, .int .u8 0, .int .u8 0, .int .u8 0] 5)) := by intro w; kernel_rfl
set_option maxHeartbeats 1000000 in
theorem alive6_any (w : World) : Calls Try.prog 10 #[] w fun e w' => e = .returned (.bool true) ∧ Below w.heap.size w w' := by
  have HL := hid fun W dv (h : RB W dv pA6.load) => lay6_any pA6 dv W pA6_ok h
  have HLA := hid layA6
  have HWA := hid wrapA6
  have HPA := hid parseA6
  have hwr := fun W v u (h : RB W v (layR pA6).1) (h2 : RB W u [0, 0, 0, 0, 0, 0]) => wrap6_any v u (layR pA6).1 [0, 0, 0, 0, 0, 0] 60 W h h2 (by rw [HLA.out.1]; decide) (by decide)
  have hpr := fun W v (h : RB W v (wrap6 (layR pA6).1 60 [0, 0, 0, 0, 0, 0]).1) => parse6_any v (wrap6 (layR pA6).1 60 [0, 0, 0, 0, 0, 0]).1 W h (by rw [HWA.out.1]; decide)
  have HW := hid hwr
  have HP := hid hpr
  clear hwr hpr
  unfold BytesPost at HL HW
  unfold ParPost at HP
  generalize parse6 (wrap6 (layR pA6).1 60 [0, 0, 0, 0, 0, 0]).1 = pr at HP HPA
  obtain ⟨q, qe⟩ := pr
  generalize wrap6 (layR pA6).1 60 [0, 0, 0, 0, 0, 0] = wr at HW HP HWA
  obtain ⟨c, ce⟩ := wr
  generalize layR pA6 = la at HL HW HLA
  obtain ⟨b, be⟩ := la
  simp only at HL HW HP HLA HWA HPA
  obtain ⟨hbl, rfl⟩ := HLA.out
  obtain ⟨hcl, rfl⟩ := HWA.out
  obtain ⟨hqs, rfl⟩ := HPA.out
  rw [hbl] at HL
  rw [hcl] at HW
  have HQS := hid hqs
  clear HLA HWA HPA hqs hbl hcl
  have hmk := make6
  go_enter Try.func10, Try.ntmps10
  go_wp2_with (first
    | ((with_reducible refine at_build 24 ?_); refine wpList_buildF rfl 24 _ rfl #[(0, .bool true)] (by simp [Act.eval, Act.put]) _ build_adrA ?_)
    | ((with_reducible refine at_slot 10 ?_); refine wpList_litF rfl 26 5 2 _ rfl #[(0, .int .u8 97), (1, .int .u8 98)] (by simp [Act.eval, Act.put]) _ (lit8_2 _ _) ?_; intro w0 h0 hb0 s0)
    | ((with_reducible refine at_slot 11 ?_); refine wpList_markF rfl (.tmp 10) rfl w.heap.size 2 2 rfl _ _ h0 ?_; intro w1 h1 m1 s1; (have hl1 : w.heap.size < w1.heap.size := by omega); (have hb1 : Below w.heap.size w w1 := Mod.below hb0 m1 (Nat.le_refl _) (fun k hk => Nat.le_of_eq (List.mem_singleton.1 hk).symm)); clear s1 s0 hb0 h0 m1)
    | ((with_reducible refine at_build 28 ?_); refine wpList_buildF rfl 28 _ rfl #[(0, .agg (noAdr true).cells), (1, .agg (noAdr true).cells), (2, .int .u8 6), (3, .int .u8 2), (5, .bool true), (8, .slice (some ⟨w.heap.size, 0, none⟩) 2 2)] (by simp [Act.eval, Act.put]) _ (build_pA6 _) ?_)
    | ((with_reducible refine at_slot 1 ?_); refine wpList_allocF rfl 28 rfl _ alloc_noPkt ?_; intro w2 h2 hb2 s2; clear s2)
    | ((with_reducible refine at_store 1 12 ?_); refine wpList_rowF rfl 28 (.tmp 1) (.tmp 12) rfl w1.heap.size 28 _ (pA6.cells (.slice (some ⟨w.heap.size, 0, none⟩) 2 2)) rfl rfl h2 (info_pkt _ _) rfl (Pkt.one _ _ rfl) ?_; intro w3 h3 m3 s3; clear s3)
    | ((with_reducible refine at_slot 14 ?_); refine wpList_load_row rfl 28 (.tmp 1) rfl w1.heap.size rfl _ (pA6.cells (.slice (some ⟨w.heap.size, 0, none⟩) 2 2)) _ _ h3 Try.underlying28 rfl (info_pkt _ _) ?_))
  have hB3 : Below w.heap.size w w3 := m3.below (hb1.trans (hb2.mono hb1.size)) (Nat.le_refl _) (by simp; exact hb1.size)
  have hra : RB w3 (.slice (some ⟨w.heap.size, 0, none⟩) 2 2) [97, 98] := RB.inBlock (m3.keeps ((hb2.block w.heap.size hl1).trans h1) (by simp; omega)) rfl (Nat.le_refl _) (by decide) (fun j v hv => by rw [Nat.zero_add, ← hv]; simp [by8, u8])
  have hl3 : w1.heap.size < w3.heap.size := (Array.getElem?_eq_some_iff.1 h3).1
  clear h1 h2 hb1 hb2 m3
  refine Calls.mono (HL.out w3 _ hra) ?_
  rintro e w4 ⟨A4, k4, rfl, o4, hb4⟩
  have h4 := (hb4.block _ hl3).trans h3
  have hra4 := hra.below hb4
  have hB4 := below_after hB3 hb4 (Nat.le_refl _)
  have hl4 : w1.heap.size < w4.heap.size := Nat.lt_of_lt_of_le hl3 hb4.size
  have hr4 := o4.rb
  clear hB3 hb4 hra h3 hl3 o4
  go_wp2_with fail
  generalize hW : w4.alloc _ = w5
  have hb5 : Below w4.heap.size w4 w5 := by rw [← hW]; exact bl1 w4 _
  have h5 : w5.heap[w4.heap.size]? = some (.cells #[.int .u8 0, .int .u8 0, .int .u8 0, .int .u8 0, .int .u8 0, .int .u8 0] 5 (0, 0)) := by rw [← hW]; exact nw1 w4 _
  clear hW
  have hr5 : RB w5 (.slice (some ⟨w4.heap.size, 0, none⟩) 6 6) [0, 0, 0, 0, 0, 0] := RB.lit h5 rfl (by decide) rfl
  refine Calls.mono (HW.out w5 _ _ (hr4.below hb5) hr5) ?_
  rintro e w6 ⟨A6, k6, rfl, o6, hb6⟩
  have hB6 := below_after (below_after hB4 hb5 (Nat.le_refl _)) hb6 (Nat.le_refl _)
  have h6 := (hb6.block _ (Nat.lt_of_lt_of_le hl4 hb5.size)).trans ((hb5.block _ hl4).trans h4)
  have hra6 := (hra4.below hb5).below hb6
  have hl6 : w1.heap.size < w6.heap.size := Nat.lt_of_lt_of_le (Nat.lt_of_lt_of_le hl4 hb5.size) hb6.size
  have hr6 := o6.rb
  clear o6 hb6 hb5 h5 hr5 hra4 hr4 h4 hB4 hl4
  go_wp2_with fail
  refine Calls.mono (HP.out w6 _ hr6) ?_
  rintro e w7 ⟨dq, rfl, hr7, hb7⟩
  have hB7 := below_after hB6 hb7 (Nat.le_refl _)
  have h7 := (hb7.block _ hl6).trans h6
  have hra7 := hra6.below hb7
  have hl7 : w1.heap.size < w7.heap.size := Nat.lt_of_lt_of_le hl6 hb7.size
  clear hB6 h6 hra6 hl6 hb7 hr6
  go_wp2_with (first
    | ((with_reducible refine at_slot 6 ?_); refine wpList_allocF rfl 28 rfl _ alloc_noPkt ?_; intro w8 h8 hb8 s8; clear s8)
    | ((with_reducible refine at_store 6 27 ?_); refine wpList_rowF rfl 28 (.tmp 6) (.tmp 27) rfl w7.heap.size 28 _ (q.cells dq) rfl rfl h8 (info_pkt _ _) rfl (Pkt.one _ _ hr7.one) ?_; intro w9 h9 m9 s9; clear s9; have h19 := m9.keeps ((hb8.block _ hl7).trans h7) (by simp; omega))
    | ((with_reducible refine at_slot 50 ?_); refine wpList_yieldG rfl (exec_loadAt 28 (.tmp 1) rfl ⟨w1.heap.size, 0, none⟩ rfl (pA6.cells (.slice (some ⟨w.heap.size, 0, none⟩) 2 2)) _ (cells_part h19 (fun j u h => by rw [Nat.zero_add]; exact h)) Try.underlying28 rfl (info_pkt _ _)) ?_)
    | ((with_reducible refine at_slot 51 ?_); refine wpList_yieldG rfl (exec_loadAt 28 (.tmp 6) rfl ⟨w7.heap.size, 0, none⟩ rfl (q.cells dq) _ (cells_part h9 (fun j u h => by rw [Nat.zero_add]; exact h)) Try.underlying28 rfl (info_pkt _ _)) ?_))
  have hB9 := m9.below (hB7.trans (hb8.mono hB7.size)) (Nat.le_refl _) (by simp; exact hB7.size)
  have hx := (same_any pA6 q _ dq w9 ((hra7.below hb8).mod m9 (InB.some _ _) (by simp; omega)) (RB.mod' (hr7.below hb8) hr7.lt m9))
  rw [HQS.out] at hx
  refine Calls.mono hx ?_
  rintro e w10 ⟨rfl, hb10⟩
  go_wp2_with fail
  go_ret
  exact ⟨rfl, below_after hB9 hb10 (Nat.le_refl _)⟩
end Go.Proofs.Ytlijgcmcpehplaa
