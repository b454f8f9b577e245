/- The law's own 'does': Dup. -/
import Derived.Test.YtkecfdngnbeinaaCongG
namespace Go.Proofs.Ytkecfdngnbeinaa
set_option linter.unusedVariables false
set_option linter.unusedSimpArgs false
open Go.RowKit
set_option maxHeartbeats 1000000 in
theorem does_dup1 (c : Ctl) (s : Stp) (w : World) (h : Fit c) (hd : 0 ≤ c.dups ∧ c.dups ≤ 100000) (hs : s.Ok) (hj : s.kind.tmod 6 = 1) :
    Calls Try.prog 7 #[c.v, s.v] w fun e w' => (∃ d b, e = .returned (.tuple #[d.v, .bool b]) ∧ Did c 1 s.n d b) ∧ Below w.heap.size w w' := by
  have hk : IntKind.u8.wrap 1 = 1 := rfl
  obtain ⟨W, hW, f0, f1, f2, fb, fs⟩ := three_blocks w (.cells #[.int .i64 c.mss, .int .i64 c.win, .int .i64 c.thr, .int .i64 c.dups, .bool c.recs, .int .u32 c.to] 26) (.cells #[.int .u8 s.kind, .int .i64 s.n, .int .u32 s.num, .int .i64 s.fl] 29) (.cells #[.int .i64 0, .int .i64 0, .int .i64 0, .int .i64 0, .bool false, .int .u32 0] 26)
  have HW := hid hW
  have g2 : W.heap[w.heap.size + 1 + 1]? = some (.cells zeroC.cells 26 (0, 0)) := f2
  clear hW f0 f1 f2
  have H1 := hid h
  have H2 := hid hs
  have H3 := hid hd
  clear h hs hd
  rw [Ctl.v_def]
  unfold Stp.v
  go_enter Try.func7, Try.ntmps7
  go_wp2_with fail
  rw [← HW.out]
  clear HW
  refine (dup_any c s.fl s.num W ⟨by have := H1.out.mss; omega, H1.out.mss.2⟩ H1.out.win H3.out H2.out.fl).mono ?_
  rintro e w1 ⟨rfl, hb1⟩
  obtain ⟨D, hD⟩ : ∃ D, D = (c.dup s.fl s.num).1 := ⟨_, rfl⟩
  obtain ⟨b, hbb⟩ : ∃ b, b = (c.dup s.fl s.num).2 := ⟨_, rfl⟩
  rw [← hD, ← hbb]
  have HD := hid hD
  have HBB := hid hbb
  clear hD hbb
  have hR := (hb1.block _ (by omega)).trans g2
  have HB := below_after fb hb1 (Nat.le_refl _)
  clear g2 fb hb1
  dsimp only
  rename_i hK
  refine hK _ _ ?_
  go_wp2_with (refine wpList_store_row (by rfl) 26 (.tmp 4) (.tmp 43) (by rfl) (w.heap.size + 1 + 1) D.cells (by rfl) (by rfl) 26 _ hR infoC (by rfl) (ctl_one _) ?_)
  exact ctl_ret2 rfl rfl (rowSetRow hR D.cells) ⟨⟨D, _, rfl, (.inr (.inr (.inr (.inr (.inr ⟨.inl rfl, _, _, HD.out, HBB.out⟩)))))⟩, belowSetRow HB (by omega : w.heap.size ≤ w.heap.size + 1 + 1) D.cells⟩
set_option maxHeartbeats 1000000 in
theorem does_dup5 (c : Ctl) (s : Stp) (w : World) (h : Fit c) (hd : 0 ≤ c.dups ∧ c.dups ≤ 100000) (hs : s.Ok) (hj : s.kind.tmod 6 = 5) :
    Calls Try.prog 7 #[c.v, s.v] w fun e w' => (∃ d b, e = .returned (.tuple #[d.v, .bool b]) ∧ Did c 5 s.n d b) ∧ Below w.heap.size w w' := by
  have hk : IntKind.u8.wrap 5 = 5 := rfl
  obtain ⟨W, hW, f0, f1, f2, fb, fs⟩ := three_blocks w (.cells #[.int .i64 c.mss, .int .i64 c.win, .int .i64 c.thr, .int .i64 c.dups, .bool c.recs, .int .u32 c.to] 26) (.cells #[.int .u8 s.kind, .int .i64 s.n, .int .u32 s.num, .int .i64 s.fl] 29) (.cells #[.int .i64 0, .int .i64 0, .int .i64 0, .int .i64 0, .bool false, .int .u32 0] 26)
  have HW := hid hW
  have g2 : W.heap[w.heap.size + 1 + 1]? = some (.cells zeroC.cells 26 (0, 0)) := f2
  clear hW f0 f1 f2
  have H1 := hid h
  have H2 := hid hs
  have H3 := hid hd
  clear h hs hd
  rw [Ctl.v_def]
  unfold Stp.v
  go_enter Try.func7, Try.ntmps7
  go_wp2_with fail
  rw [← HW.out]
  clear HW
  refine (dup_any c s.fl s.num W ⟨by have := H1.out.mss; omega, H1.out.mss.2⟩ H1.out.win H3.out H2.out.fl).mono ?_
  rintro e w1 ⟨rfl, hb1⟩
  obtain ⟨D, hD⟩ : ∃ D, D = (c.dup s.fl s.num).1 := ⟨_, rfl⟩
  obtain ⟨b, hbb⟩ : ∃ b, b = (c.dup s.fl s.num).2 := ⟨_, rfl⟩
  rw [← hD, ← hbb]
  have HD := hid hD
  have HBB := hid hbb
  clear hD hbb
  have hR := (hb1.block _ (by omega)).trans g2
  have HB := below_after fb hb1 (Nat.le_refl _)
  clear g2 fb hb1
  dsimp only
  rename_i hK
  refine hK _ _ ?_
  go_wp2_with (refine wpList_store_row (by rfl) 26 (.tmp 4) (.tmp 43) (by rfl) (w.heap.size + 1 + 1) D.cells (by rfl) (by rfl) 26 _ hR infoC (by rfl) (ctl_one _) ?_)
  exact ctl_ret2 rfl rfl (rowSetRow hR D.cells) ⟨⟨D, _, rfl, (.inr (.inr (.inr (.inr (.inr ⟨.inr rfl, _, _, HD.out, HBB.out⟩)))))⟩, belowSetRow HB (by omega : w.heap.size ≤ w.heap.size + 1 + 1) D.cells⟩
theorem does_any (c : Ctl) (s : Stp) (w : World) (h : Fit c) (hd : 0 ≤ c.dups ∧ c.dups ≤ 100000) (hs : s.Ok) :
    Calls Try.prog 7 #[c.v, s.v] w fun e w' => (∃ d b, e = .returned (.tuple #[d.v, .bool b]) ∧ Did c (s.kind.tmod 6) s.n d b) ∧ Below w.heap.size w w' := by
  have hk := hs.kind
  have hj : s.kind.tmod 6 = 0 ∨ s.kind.tmod 6 = 1 ∨ s.kind.tmod 6 = 2 ∨ s.kind.tmod 6 = 3 ∨ s.kind.tmod 6 = 4 ∨ s.kind.tmod 6 = 5 := by
    rw [Int.tmod_eq_emod_of_nonneg hk.1]; omega
  rcases hj with hj | hj | hj | hj | hj | hj
  · rw [hj]
    by_cases hn : s.n < 1
    · exact does_less c s w h hd hs hj hn
    · exact does_acked c s w h hd hs hj (by omega)
  · rw [hj]; exact does_dup1 c s w h hd hs hj
  · rw [hj]; exact does_timeout c s w h hd hs hj
  · rw [hj]; exact does_idle c s w h hd hs hj
  · rw [hj]; exact does_resize c s w h hd hs hj
  · rw [hj]; exact does_dup5 c s w h hd hs hj
end Go.Proofs.Ytkecfdngnbeinaa
