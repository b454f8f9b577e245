/- The law's own 'does': one event. -/
import Derived.Test.YtkecfdngnbeinaaCongF
namespace Go.Proofs.Ytkecfdngnbeinaa
set_option linter.unusedVariables false
set_option linter.unusedSimpArgs false
open Go.RowKit

/-- One event. -/
structure Stp where
  kind : Int
  n : Int
  num : Int
  fl : Int
def Stp.v (s : Stp) : Value := .agg #[.int .u8 s.kind, .int .i64 s.n, .int .u32 s.num, .int .i64 s.fl]
structure Stp.Ok (s : Stp) : Prop where
  kind : 0 ≤ s.kind ∧ s.kind ≤ 255
  n : -9223372036854775808 ≤ s.n ∧ s.n ≤ 9223372036854775807
  fl : -9223372036854775808 ≤ s.fl ∧ s.fl ≤ 9223372036854775807
/-- What an event of kind j makes of a control. -/
def Did (c : Ctl) (j n : Int) (d : Ctl) (b : Bool) : Prop :=
  (j = 0 ∧ n < 1 ∧ d = c ∧ b = false) ∨ (j = 0 ∧ 1 ≤ n ∧ Acks c d ∧ b = false) ∨ (j = 2 ∧ (∃ f x, d = c.timeout f x) ∧ b = false) ∨ (j = 3 ∧ d = c.idle ∧ b = false) ∨
  (j = 4 ∧ (∃ m, d = c.resize m) ∧ b = false) ∨ ((j = 1 ∨ j = 5) ∧ ∃ f x, d = (c.dup f x).1 ∧ b = (c.dup f x).2)
theorem acked_any (c : Ctl) (n ack fl : Int) (w : World) (h : Fit c) (hn : 1 ≤ n) (hn2 : n ≤ 9223372036854775807) (hfl : -9223372036854775808 ≤ fl ∧ fl ≤ 9223372036854775807) :
    Calls Try.prog 9 #[c.v, .int .i64 n, .int .u32 ack, .int .i64 fl] w fun e w' => (∃ d : Ctl, e = .returned d.v ∧ Acks c d) ∧ Below w.heap.size w w' := by
  by_cases hr : c.recs = true
  · exact acked_rec c n ack fl w h hn hn2 hfl hr
  · have hr : c.recs = false := by simpa using hr
    by_cases hl : c.win < c.thr
    · exact acked_slow c n ack fl w h hn hn2 hr hl
    · exact acked_full c n ack fl w h hn hn2 hr (by omega)
theorem three_blocks (w : World) (o1 o2 o3 : Obj) : ∃ W, W = ((w.alloc o1).alloc o2).alloc o3 ∧ W.heap[w.heap.size]? = some o1 ∧ W.heap[w.heap.size + 1]? = some o2 ∧ W.heap[w.heap.size + 1 + 1]? = some o3 ∧ Below w.heap.size w W ∧ W.heap.size = w.heap.size + 3 := by
  obtain ⟨W, hW, h1, h2, hb, hs⟩ := two_blocks w o1 o2
  refine ⟨W.alloc o3, by rw [hW], ?_, ?_, ?_, below_alloc hb o3 (by omega), by simp; omega⟩
  · rw [Below.heap_alloc _ _ _ (by omega)]; exact h1
  · rw [Below.heap_alloc _ _ _ (by omega)]; exact h2
  · have := heap_alloc_new W o3
    rw [hs] at this; exact this
set_option maxHeartbeats 1000000 in
theorem does_less (c : Ctl) (s : Stp) (w : World) (h : Fit c) (hd : 0 ≤ c.dups ∧ c.dups ≤ 100000) (hs : s.Ok) (hj : s.kind.tmod 6 = 0) (hn : s.n < 1) :
    Calls Try.prog 7 #[c.v, s.v] w fun e w' => (∃ d b, e = .returned (.tuple #[d.v, .bool b]) ∧ Did c 0 s.n d b) ∧ Below w.heap.size w w' := by
  have hk : IntKind.u8.wrap 0 = 0 := rfl
  obtain ⟨W, hW, f0, f1, f2, fb, fs⟩ := three_blocks w (.cells #[.int .i64 c.mss, .int .i64 c.win, .int .i64 c.thr, .int .i64 c.dups, .bool c.recs, .int .u32 c.to] 26) (.cells #[.int .u8 s.kind, .int .i64 s.n, .int .u32 s.num, .int .i64 s.fl] 29) (.cells #[.int .i64 0, .int .i64 0, .int .i64 0, .int .i64 0, .bool false, .int .u32 0] 26)
  have HW := hid hW
  have g2 : W.heap[w.heap.size + 1 + 1]? = some (.cells zeroC.cells 26 (0, 0)) := f2
  clear hW f0 f1 f2
  have H1 := hid h
  have H2 := hid hs
  have H3 := hid hd
  clear h hs hd
  rw [Ctl.v_def]
  unfold Stp.v
  go_enter Try.func7, Try.ntmps7
  go_wp2_with fail
  rw [← HW.out]
  clear HW
  refine (acked_less c s.n s.num s.fl W hn).mono ?_
  rintro e w1 ⟨rfl, hb1⟩
  obtain ⟨D, hD⟩ : ∃ D, D = c := ⟨_, rfl⟩
  rw [← hD]
  have HD := hid hD
  clear hD
  have hR := (hb1.block _ (by omega)).trans g2
  have HB := below_after fb hb1 (Nat.le_refl _)
  clear g2 fb hb1
  dsimp only
  rename_i hK
  refine hK _ _ ?_
  refine wpList_store_row (by rfl) 26 (.tmp 4) (.tmp 18) (by rfl) (w.heap.size + 1 + 1) D.cells (by rfl) (by rfl) 26 _ hR infoC (by rfl) (ctl_one _) ?_
  have hR2 := rowSetRow hR D.cells
  have HB2 := belowSetRow HB (by omega : w.heap.size ≤ w.heap.size + 1 + 1) D.cells
  generalize w1.setRow (w.heap.size + 1 + 1) _ = W4 at hR2 HB2 ⊢
  go_wp2_with fail
  exact ctl_ret2 rfl rfl hR2 ⟨⟨D, _, rfl, (.inl ⟨rfl, hn, HD.out, rfl⟩)⟩, HB2⟩
set_option maxHeartbeats 1000000 in
theorem does_acked (c : Ctl) (s : Stp) (w : World) (h : Fit c) (hd : 0 ≤ c.dups ∧ c.dups ≤ 100000) (hs : s.Ok) (hj : s.kind.tmod 6 = 0) (hn : 1 ≤ s.n) :
    Calls Try.prog 7 #[c.v, s.v] w fun e w' => (∃ d b, e = .returned (.tuple #[d.v, .bool b]) ∧ Did c 0 s.n d b) ∧ Below w.heap.size w w' := by
  have hk : IntKind.u8.wrap 0 = 0 := rfl
  obtain ⟨W, hW, f0, f1, f2, fb, fs⟩ := three_blocks w (.cells #[.int .i64 c.mss, .int .i64 c.win, .int .i64 c.thr, .int .i64 c.dups, .bool c.recs, .int .u32 c.to] 26) (.cells #[.int .u8 s.kind, .int .i64 s.n, .int .u32 s.num, .int .i64 s.fl] 29) (.cells #[.int .i64 0, .int .i64 0, .int .i64 0, .int .i64 0, .bool false, .int .u32 0] 26)
  have HW := hid hW
  have g2 : W.heap[w.heap.size + 1 + 1]? = some (.cells zeroC.cells 26 (0, 0)) := f2
  clear hW f0 f1 f2
  have H1 := hid h
  have H2 := hid hs
  have H3 := hid hd
  clear h hs hd
  rw [Ctl.v_def]
  unfold Stp.v
  go_enter Try.func7, Try.ntmps7
  go_wp2_with fail
  rw [← HW.out]
  clear HW
  refine (acked_any c s.n s.num s.fl W H1.out hn H2.out.n.2 H2.out.fl).mono ?_
  rintro e w1 ⟨⟨D, rfl, hD⟩, hb1⟩
  have HD := hid hD
  clear hD
  have hR := (hb1.block _ (by omega)).trans g2
  have HB := below_after fb hb1 (Nat.le_refl _)
  clear g2 fb hb1
  dsimp only
  rename_i hK
  refine hK _ _ ?_
  refine wpList_store_row (by rfl) 26 (.tmp 4) (.tmp 18) (by rfl) (w.heap.size + 1 + 1) D.cells (by rfl) (by rfl) 26 _ hR infoC (by rfl) (ctl_one _) ?_
  have hR2 := rowSetRow hR D.cells
  have HB2 := belowSetRow HB (by omega : w.heap.size ≤ w.heap.size + 1 + 1) D.cells
  generalize w1.setRow (w.heap.size + 1 + 1) _ = W4 at hR2 HB2 ⊢
  go_wp2_with fail
  exact ctl_ret2 rfl rfl hR2 ⟨⟨D, _, rfl, (.inr (.inl ⟨rfl, hn, HD.out, rfl⟩))⟩, HB2⟩
set_option maxHeartbeats 1000000 in
theorem does_timeout (c : Ctl) (s : Stp) (w : World) (h : Fit c) (hd : 0 ≤ c.dups ∧ c.dups ≤ 100000) (hs : s.Ok) (hj : s.kind.tmod 6 = 2) :
    Calls Try.prog 7 #[c.v, s.v] w fun e w' => (∃ d b, e = .returned (.tuple #[d.v, .bool b]) ∧ Did c 2 s.n d b) ∧ Below w.heap.size w w' := by
  have hk : IntKind.u8.wrap 2 = 2 := rfl
  obtain ⟨W, hW, f0, f1, f2, fb, fs⟩ := three_blocks w (.cells #[.int .i64 c.mss, .int .i64 c.win, .int .i64 c.thr, .int .i64 c.dups, .bool c.recs, .int .u32 c.to] 26) (.cells #[.int .u8 s.kind, .int .i64 s.n, .int .u32 s.num, .int .i64 s.fl] 29) (.cells #[.int .i64 0, .int .i64 0, .int .i64 0, .int .i64 0, .bool false, .int .u32 0] 26)
  have HW := hid hW
  have g2 : W.heap[w.heap.size + 1 + 1]? = some (.cells zeroC.cells 26 (0, 0)) := f2
  clear hW f0 f1 f2
  have H1 := hid h
  have H2 := hid hs
  have H3 := hid hd
  clear h hs hd
  rw [Ctl.v_def]
  unfold Stp.v
  go_enter Try.func7, Try.ntmps7
  go_wp2_with fail
  rw [← HW.out]
  clear HW
  refine (timeout_any c s.fl s.num W ⟨by have := H1.out.mss; omega, H1.out.mss.2⟩ H2.out.fl).mono ?_
  rintro e w1 ⟨rfl, hb1⟩
  obtain ⟨D, hD⟩ : ∃ D, D = c.timeout s.fl s.num := ⟨_, rfl⟩
  rw [← hD]
  have HD := hid hD
  clear hD
  have hR := (hb1.block _ (by omega)).trans g2
  have HB := below_after fb hb1 (Nat.le_refl _)
  clear g2 fb hb1
  dsimp only
  rename_i hK
  refine hK _ _ ?_
  refine wpList_store_row (by rfl) 26 (.tmp 4) (.tmp 26) (by rfl) (w.heap.size + 1 + 1) D.cells (by rfl) (by rfl) 26 _ hR infoC (by rfl) (ctl_one _) ?_
  have hR2 := rowSetRow hR D.cells
  have HB2 := belowSetRow HB (by omega : w.heap.size ≤ w.heap.size + 1 + 1) D.cells
  generalize w1.setRow (w.heap.size + 1 + 1) _ = W4 at hR2 HB2 ⊢
  go_wp2_with fail
  exact ctl_ret2 rfl rfl hR2 ⟨⟨D, _, rfl, (.inr (.inr (.inl ⟨rfl, ⟨_, _, HD.out⟩, rfl⟩)))⟩, HB2⟩
set_option maxHeartbeats 1000000 in
theorem does_idle (c : Ctl) (s : Stp) (w : World) (h : Fit c) (hd : 0 ≤ c.dups ∧ c.dups ≤ 100000) (hs : s.Ok) (hj : s.kind.tmod 6 = 3) :
    Calls Try.prog 7 #[c.v, s.v] w fun e w' => (∃ d b, e = .returned (.tuple #[d.v, .bool b]) ∧ Did c 3 s.n d b) ∧ Below w.heap.size w w' := by
  have hk : IntKind.u8.wrap 3 = 3 := rfl
  obtain ⟨W, hW, f0, f1, f2, fb, fs⟩ := three_blocks w (.cells #[.int .i64 c.mss, .int .i64 c.win, .int .i64 c.thr, .int .i64 c.dups, .bool c.recs, .int .u32 c.to] 26) (.cells #[.int .u8 s.kind, .int .i64 s.n, .int .u32 s.num, .int .i64 s.fl] 29) (.cells #[.int .i64 0, .int .i64 0, .int .i64 0, .int .i64 0, .bool false, .int .u32 0] 26)
  have HW := hid hW
  have g2 : W.heap[w.heap.size + 1 + 1]? = some (.cells zeroC.cells 26 (0, 0)) := f2
  clear hW f0 f1 f2
  have H1 := hid h
  have H2 := hid hs
  have H3 := hid hd
  clear h hs hd
  rw [Ctl.v_def]
  unfold Stp.v
  go_enter Try.func7, Try.ntmps7
  go_wp2_with fail
  rw [← HW.out]
  clear HW
  refine (idle_any c W ⟨by have := H1.out.mss; omega, H1.out.mss.2⟩).mono ?_
  rintro e w1 ⟨rfl, hb1⟩
  obtain ⟨D, hD⟩ : ∃ D, D = c.idle := ⟨_, rfl⟩
  rw [← hD]
  have HD := hid hD
  clear hD
  have hR := (hb1.block _ (by omega)).trans g2
  have HB := below_after fb hb1 (Nat.le_refl _)
  clear g2 fb hb1
  dsimp only
  rename_i hK
  refine hK _ _ ?_
  refine wpList_store_row (by rfl) 26 (.tmp 4) (.tmp 30) (by rfl) (w.heap.size + 1 + 1) D.cells (by rfl) (by rfl) 26 _ hR infoC (by rfl) (ctl_one _) ?_
  have hR2 := rowSetRow hR D.cells
  have HB2 := belowSetRow HB (by omega : w.heap.size ≤ w.heap.size + 1 + 1) D.cells
  generalize w1.setRow (w.heap.size + 1 + 1) _ = W4 at hR2 HB2 ⊢
  go_wp2_with fail
  exact ctl_ret2 rfl rfl hR2 ⟨⟨D, _, rfl, (.inr (.inr (.inr (.inl ⟨rfl, HD.out, rfl⟩))))⟩, HB2⟩
set_option maxHeartbeats 1000000 in
theorem does_resize (c : Ctl) (s : Stp) (w : World) (h : Fit c) (hd : 0 ≤ c.dups ∧ c.dups ≤ 100000) (hs : s.Ok) (hj : s.kind.tmod 6 = 4) :
    Calls Try.prog 7 #[c.v, s.v] w fun e w' => (∃ d b, e = .returned (.tuple #[d.v, .bool b]) ∧ Did c 4 s.n d b) ∧ Below w.heap.size w w' := by
  have hk : IntKind.u8.wrap 4 = 4 := rfl
  obtain ⟨W, hW, f0, f1, f2, fb, fs⟩ := three_blocks w (.cells #[.int .i64 c.mss, .int .i64 c.win, .int .i64 c.thr, .int .i64 c.dups, .bool c.recs, .int .u32 c.to] 26) (.cells #[.int .u8 s.kind, .int .i64 s.n, .int .u32 s.num, .int .i64 s.fl] 29) (.cells #[.int .i64 0, .int .i64 0, .int .i64 0, .int .i64 0, .bool false, .int .u32 0] 26)
  have HW := hid hW
  have g2 : W.heap[w.heap.size + 1 + 1]? = some (.cells zeroC.cells 26 (0, 0)) := f2
  clear hW f0 f1 f2
  have H1 := hid h
  have H2 := hid hs
  have H3 := hid hd
  clear h hs hd
  rw [Ctl.v_def]
  unfold Stp.v
  go_enter Try.func7, Try.ntmps7
  go_wp2_with fail
  rw [← HW.out]
  clear HW
  refine (resize_any c s.n W).mono ?_
  rintro e w1 ⟨rfl, hb1⟩
  obtain ⟨D, hD⟩ : ∃ D, D = c.resize s.n := ⟨_, rfl⟩
  rw [← hD]
  have HD := hid hD
  clear hD
  have hR := (hb1.block _ (by omega)).trans g2
  have HB := below_after fb hb1 (Nat.le_refl _)
  clear g2 fb hb1
  dsimp only
  rename_i hK
  refine hK _ _ ?_
  refine wpList_store_row (by rfl) 26 (.tmp 4) (.tmp 36) (by rfl) (w.heap.size + 1 + 1) D.cells (by rfl) (by rfl) 26 _ hR infoC (by rfl) (ctl_one _) ?_
  have hR2 := rowSetRow hR D.cells
  have HB2 := belowSetRow HB (by omega : w.heap.size ≤ w.heap.size + 1 + 1) D.cells
  generalize w1.setRow (w.heap.size + 1 + 1) _ = W4 at hR2 HB2 ⊢
  go_wp2_with fail
  exact ctl_ret2 rfl rfl hR2 ⟨⟨D, _, rfl, (.inr (.inr (.inr (.inr (.inl ⟨rfl, ⟨_, HD.out⟩, rfl⟩)))))⟩, HB2⟩
end Go.Proofs.Ytkecfdngnbeinaa
