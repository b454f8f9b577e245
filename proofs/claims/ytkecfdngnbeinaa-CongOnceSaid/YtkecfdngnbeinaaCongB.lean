/- The control: what calls its parts. -/
import Derived.Test.YtkecfdngnbeinaaCongA
namespace Go.Proofs.Ytkecfdngnbeinaa
set_option linter.unusedVariables false
set_option linter.unusedSimpArgs false
open Go.RowKit

theorem least_any (n x : Int) (b : Nat) (w : World) (hb : w.heap[b]? = some (.cells #[.int .i64 x] 3 (0, 0))) :
    Calls Try.prog 18 #[.int .i64 n, .slice (some ⟨b, 0, none⟩) 1 1] w fun e w' => e = .returned (.int .i64 (min n x)) ∧ w = w' := by
  have c0 := cellRow hb 0
  simp only [List.getElem?_toArray, List.getElem?_cons_zero] at c0
  go_enter Try.func18, Try.ntmps18
  go_wp2_with fail
  go_loopw [0, 9] (fun m i wr => wr = w ∧ ((i = .int .i64 0 ∧ m = .int .i64 n) ∨ (i = .int .i64 1 ∧ m = .int .i64 (min n x)))) (fun _ i _ => 2 - (intOf i).toNat)
  case atStart => exact ⟨rfl, .inl ⟨rfl, rfl⟩⟩
  case round =>
    obtain ⟨rfl, ⟨rfl, rfl⟩ | ⟨rfl, rfl⟩⟩ := hrel
    · go_wp2
      all_goals
        go_roundw
        case rel =>
          first
            | (refine ⟨rfl, .inr ⟨rfl, congrArg (Value.int .i64) ?_⟩⟩; omega)
            | (refine ⟨trivial, .inr ⟨rfl, congrArg (Value.int .i64) ?_⟩⟩; omega)
        case measure => simp [intOf]
    · go_wp2
      go_ret
      exact ⟨rfl, rfl⟩
def Ctl.first (c : Ctl) : Int := min (4 * c.mss) (max (2 * c.mss) 4380)
theorem first_any (c : Ctl) (w : World) (hm : 0 ≤ c.mss ∧ c.mss ≤ 65535) : Calls Try.prog 13 #[c.v] w fun e w' => e = .returned (.int .i64 c.first) ∧ Below w.heap.size w w' := by
  obtain ⟨m, wi, t, d, r, o⟩ := c
  unfold Ctl.v Ctl.first
  simp only at hm ⊢
  have h1 : IntKind.i64.wrap (4 * m) = 4 * m := IntWalk.i64_in _ (by omega)
  have h2 : IntKind.i64.wrap (2 * m) = 2 * m := IntWalk.i64_in _ (by omega)
  go_enter Try.func13, Try.ntmps13
  go_wp2_with fail
  all_goals
    refine (least_any _ _ (w.heap.size + 1) _ (new2 w _ _)).mono ?_
    rintro e w' ⟨rfl, rfl⟩
    go_wp2_with fail
    go_ret
    exact ⟨congrArg Ending.returned (congrArg (Value.int .i64) (by omega)), below2 w _ _⟩
theorem before_any (a b : Int) (w : World) : Calls Try.prog 16 #[.int .u32 a, .int .u32 b] w fun e w' => (∃ x, e = .returned (.bool x)) ∧ w = w' := by
  go_enter Try.func16, Try.ntmps16
  go_wp2
  go_ret
  exact ⟨⟨_, rfl⟩, rfl⟩
def Ctl.new (m : Int) : Ctl := { mss := min (max m 1) 65535, win := (Ctl.first ⟨min (max m 1) 65535, 0, 0, 0, false, 0⟩), thr := 1073741824, dups := 0, recs := false, to := 0 }
theorem Ctl.v_def (c : Ctl) : c.v = .agg #[.int .i64 c.mss, .int .i64 c.win, .int .i64 c.thr, .int .i64 c.dups, .bool c.recs, .int .u32 c.to] := rfl
/-- The six cells of a block that holds a control. -/
def Ctl.cells (c : Ctl) : Array Value := #[.int .i64 c.mss, .int .i64 c.win, .int .i64 c.thr, .int .i64 c.dups, .bool c.recs, .int .u32 c.to]
theorem ctl_cells {w : World} {b : Nat} {c : Ctl} (h : w.heap[b]? = some (.cells c.cells 26 (0, 0))) :
    w.cell? ⟨b, 0, none⟩ = some (.int .i64 c.mss) ∧ w.cell? ⟨b, 1, none⟩ = some (.int .i64 c.win) ∧ w.cell? ⟨b, 2, none⟩ = some (.int .i64 c.thr) ∧ w.cell? ⟨b, 3, none⟩ = some (.int .i64 c.dups) ∧ w.cell? ⟨b, 4, none⟩ = some (.bool c.recs) ∧ w.cell? ⟨b, 5, none⟩ = some (.int .u32 c.to) :=
  ⟨cellRow h 0, cellRow h 1, cellRow h 2, cellRow h 3, cellRow h 4, cellRow h 5⟩
/-- A whole control stored cell by cell. -/
def put6 (w : World) (b : Nat) (c : Ctl) : World := (((((w.setCell ⟨b, 0, none⟩ (.int .i64 c.mss)).setCell ⟨b, 1, none⟩ (.int .i64 c.win)).setCell ⟨b, 2, none⟩ (.int .i64 c.thr)).setCell ⟨b, 3, none⟩ (.int .i64 c.dups)).setCell ⟨b, 4, none⟩ (.bool c.recs)).setCell ⟨b, 5, none⟩ (.int .u32 c.to)
theorem put6_row {w : World} {b : Nat} {c : Ctl} (h : w.heap[b]? = some (.cells c.cells 26 (0, 0))) (d : Ctl) : (put6 w b d).heap[b]? = some (.cells d.cells 26 (0, 0)) :=
  rowSetCell (rowSetCell (rowSetCell (rowSetCell (rowSetCell (rowSetCell h 0 _) 1 _) 2 _) 3 _) 4 _) 5 _
theorem put6_far {w : World} {b k : Nat} (hne : b ≠ k) (d : Ctl) : (put6 w b d).heap[k]? = w.heap[k]? := by
  unfold put6
  rw [rowSetCell_far hne, rowSetCell_far hne, rowSetCell_far hne, rowSetCell_far hne, rowSetCell_far hne, rowSetCell_far hne]
theorem put6_size {w : World} {b : Nat} (d : Ctl) : (put6 w b d).heap.size = w.heap.size := by
  unfold put6
  rw [size_setCell, size_setCell, size_setCell, size_setCell, size_setCell, size_setCell]
theorem put6_below {a w : World} {B b : Nat} (h : Below B a w) (hb : B ≤ b) (d : Ctl) : Below B a (put6 w b d) :=
  Below.setCell (Below.setCell (Below.setCell (Below.setCell (Below.setCell (Below.setCell h hb _) hb _) hb _) hb _) hb _) hb _
theorem ctl_ret {fn : Func} {R : Ending → World → Prop} {tmps : Array Value} {w : World} {p : Tmp} {b : Nat} {c : Ctl} (hf : fn.results = #[.cell p 26]) (hp : tmps.getD p undef = .pointer (some ⟨b, 0, none⟩))
    (hb : w.heap[b]? = some (.cells c.cells 26 (0, 0))) (hR : R (.returned c.v) w) : bodyPost Try.prog fn R .ret ⟨tmps, []⟩ w :=
  bodyPost_ret (results_cell_row hf _ _ b _ _ _ _ hp hb Try.underlying26 rfl infoC) rfl hR
theorem new_any (m : Int) (w : World) : Calls Try.prog 5 #[.int .i64 m] w fun e w' => e = .returned (Ctl.new m).v ∧ Below w.heap.size w w' := by
  obtain ⟨C, hC⟩ : ∃ C : Ctl, C = Ctl.resize ⟨0, 0, 1073741824, 0, false, 0⟩ m := ⟨_, rfl⟩
  have hm1 : C.mss = min (max m 1) 65535 := by rw [hC]; rfl
  have hz : Value.agg #[.int .i64 0, .int .i64 0, .int .i64 1073741824, .int .i64 0, .bool false, .int .u32 0] = Ctl.v ⟨0, 0, 1073741824, 0, false, 0⟩ := rfl
  go_enter Try.func5, Try.ntmps5
  go_wp2_with fail
  have hR := heap_alloc_new w (.cells #[.int .i64 0, .int .i64 0, .int .i64 0, .int .i64 0, .bool false, .int .u32 0] 26)
  have hB := below_alloc (Below.refl w.heap.size w) (.cells #[.int .i64 0, .int .i64 0, .int .i64 0, .int .i64 0, .bool false, .int .u32 0] 26) (Nat.le_refl _)
  have hs : (w.alloc (.cells #[.int .i64 0, .int .i64 0, .int .i64 0, .int .i64 0, .bool false, .int .u32 0] 26)).heap.size = w.heap.size + 1 := by simp
  generalize w.alloc (.cells #[.int .i64 0, .int .i64 0, .int .i64 0, .int .i64 0, .bool false, .int .u32 0] 26) = W1 at hR hB hs ⊢
  clear hz
  refine (resize_any _ m _).mono ?_
  rintro e w1 ⟨rfl, hb1⟩
  rw [← hC]
  have hR1 : w1.heap[w.heap.size]? = some (.cells (Ctl.cells ⟨0, 0, 0, 0, false, 0⟩) 26 (0, 0)) := (hb1.block _ (by omega)).trans hR
  have HB1 := below_after hB hb1 (by omega)
  have hs1 := hb1.size
  clear hR hB hb1
  obtain ⟨m1, wi, t, d, r, o⟩ := C
  simp only at hm1
  have HM := hid hm1
  have HC := hid hC
  clear hm1 hC
  rw [Ctl.v_def]
  go_wp2_with fail
  have hS := heap_alloc_new w1 (.cells #[.int .i64 m1, .int .i64 wi, .int .i64 t, .int .i64 d, .bool r, .int .u32 o] 26)
  have hB := below_alloc (Below.refl w1.heap.size w1) (.cells #[.int .i64 m1, .int .i64 wi, .int .i64 t, .int .i64 d, .bool r, .int .u32 o] 26) (Nat.le_refl _)
  have hs2 : (w1.alloc (.cells #[.int .i64 m1, .int .i64 wi, .int .i64 t, .int .i64 d, .bool r, .int .u32 o] 26)).heap.size = w1.heap.size + 1 := by simp
  generalize w1.alloc (.cells #[.int .i64 m1, .int .i64 wi, .int .i64 t, .int .i64 d, .bool r, .int .u32 o] 26) = W2 at hS hB hs2 ⊢
  refine (first_any ⟨m1, wi, t, d, r, o⟩ _ (by have := HM.out; simp only; omega)).mono ?_
  rintro e w2 ⟨rfl, hb2⟩
  have hR2 := (hb2.block _ (by omega)).trans ((hB.block _ (by omega)).trans hR1)
  have hS2 : w2.heap[w1.heap.size]? = some (.cells (Ctl.cells ⟨m1, wi, t, d, r, o⟩) 26 (0, 0)) := (hb2.block _ (by omega)).trans hS
  have HB2 := below_after HB1 (below_after hB hb2 (by omega)) (Nat.le_refl _)
  have hs3 := hb2.size
  generalize hf : Ctl.first ⟨m1, wi, t, d, r, o⟩ = f at *
  have HF := hid hf
  clear hf
  generalize hSn : w1.heap.size = S at *
  clear hS hB hb2 hR1
  obtain ⟨s0, s1, s2, s3, s4, s5⟩ := ctl_cells hS2
  simp only at s0 s1 s2 s3 s4 s5
  have z1 := frozRow hS2 1
  obtain ⟨r0, r1, r2, r3, r4, r5⟩ := ctl_cells hR2
  have zr := frozRow hR2
  have hne : w.heap.size ≠ S := by omega
  go_wp2
  refine ctl_ret (c := ⟨m1, f, t, d, r, o⟩) rfl rfl (put6_row ((rowSetCell_far (by omega) _ _).trans hR2) ⟨m1, f, t, d, r, o⟩) ⟨?_, put6_below (Below.setCell HB2 (by show w.heap.size ≤ S; omega) _) (Nat.le_refl _) ⟨m1, f, t, d, r, o⟩⟩
  have hc := HC.out
  have hf := HF.out
  simp only [Ctl.resize, Ctl.mk.injEq] at hc
  obtain ⟨rfl, rfl, rfl, rfl, rfl, rfl⟩ := hc
  rw [← hf]
  rfl
/-- A control's own block and the result's, behind a call. -/
structure Two (w W : World) (B : Nat) (c z : Ctl) : Prop where
  own : W.heap[B]? = some (.cells c.cells 26 (0, 0))
  res : W.heap[B + 1]? = some (.cells z.cells 26 (0, 0))
  below : Below B w W
  size : B + 2 ≤ W.heap.size
theorem Two.after {w W W' : World} {B : Nat} {c z : Ctl} (h : Two w W B c z) (hb : Below W.heap.size W W') : Two w W' B c z :=
  ⟨(hb.block _ (by have := h.size; omega)).trans h.own, (hb.block _ (by have := h.size; omega)).trans h.res, h.below.trans (hb.mono (by have := h.size; omega)), Nat.le_trans h.size hb.size⟩
theorem Two.drewN {w W : World} {B : Nat} {c z : Ctl} (h : Two w W B c z) (n : Nat) : Two w (W.drewN n) B c z := h.after (below_drewN (Below.refl _ _) n)
theorem Two.putOwn {w W : World} {B : Nat} {c z : Ctl} (h : Two w W B c z) (d : Ctl) : Two w (put6 W B d) B d z :=
  ⟨put6_row h.own d, (put6_far (by omega) d).trans h.res, put6_below h.below (Nat.le_refl _) d, by rw [put6_size]; exact h.size⟩
theorem Two.putRes {w W : World} {B : Nat} {c z : Ctl} (h : Two w W B c z) (d : Ctl) : Two w (put6 W (B + 1) d) B c d :=
  ⟨(put6_far (by omega) d).trans h.own, put6_row h.res d, put6_below h.below (by omega) d, by rw [put6_size]; exact h.size⟩
theorem Two.setOwn {w W : World} {B : Nat} {c z : Ctl} (h : Two w W B c z) (k : Nat) (v : Value) (d : Ctl) (hd : c.cells.setIfInBounds k v = d.cells) : Two w (W.setCell ⟨B, k, none⟩ v) B d z :=
  ⟨by rw [← hd]; exact rowSetCell h.own k v, (rowSetCell_far (by omega) k v).trans h.res, h.below.setCell (p := ⟨B, k, none⟩) (Nat.le_refl _) v, by rw [size_setCell]; exact h.size⟩
/-- What the walk asks of the two blocks. -/
theorem Two.facts {w W : World} {B : Nat} {c z : Ctl} (h : Two w W B c z) :
    W.cell? ⟨B, 0, none⟩ = some (.int .i64 c.mss) ∧ W.cell? ⟨B, 1, none⟩ = some (.int .i64 c.win) ∧ W.cell? ⟨B, 2, none⟩ = some (.int .i64 c.thr) ∧ W.cell? ⟨B, 3, none⟩ = some (.int .i64 c.dups) ∧ W.cell? ⟨B, 4, none⟩ = some (.bool c.recs) ∧ W.cell? ⟨B, 5, none⟩ = some (.int .u32 c.to) ∧
    (∀ k, W.frozen? ⟨B, k, none⟩ = false) ∧ W.cell? ⟨B + 1, 0, none⟩ = some (.int .i64 z.mss) ∧ W.cell? ⟨B + 1, 1, none⟩ = some (.int .i64 z.win) ∧ W.cell? ⟨B + 1, 2, none⟩ = some (.int .i64 z.thr) ∧ W.cell? ⟨B + 1, 3, none⟩ = some (.int .i64 z.dups) ∧ W.cell? ⟨B + 1, 4, none⟩ = some (.bool z.recs) ∧ W.cell? ⟨B + 1, 5, none⟩ = some (.int .u32 z.to) ∧
    (∀ k, W.frozen? ⟨B + 1, k, none⟩ = false) :=
  ⟨(ctl_cells h.own).1, (ctl_cells h.own).2.1, (ctl_cells h.own).2.2.1, (ctl_cells h.own).2.2.2.1, (ctl_cells h.own).2.2.2.2.1, (ctl_cells h.own).2.2.2.2.2, frozRow h.own,
   (ctl_cells h.res).1, (ctl_cells h.res).2.1, (ctl_cells h.res).2.2.1, (ctl_cells h.res).2.2.2.1, (ctl_cells h.res).2.2.2.2.1, (ctl_cells h.res).2.2.2.2.2, frozRow h.res⟩
theorem ctl_one (d : Ctl) : d.cells.all (·.oneCell') = true := by simp [Ctl.cells, Value.oneCell']
theorem Two.rowOwn {w W : World} {B : Nat} {c z : Ctl} (h : Two w W B c z) (d : Ctl) : Two w (W.setRow B d.cells) B d z :=
  ⟨rowSetRow h.own _, (rowSetRow_far (by omega) _).trans h.res, belowSetRow h.below (Nat.le_refl _) _, by rw [sizeSetRow]; exact h.size⟩
theorem Two.rowRes {w W : World} {B : Nat} {c z : Ctl} (h : Two w W B c z) (d : Ctl) : Two w (W.setRow (B + 1) d.cells) B c d :=
  ⟨(rowSetRow_far (by omega) _).trans h.own, rowSetRow h.res _, belowSetRow h.below (by omega) _, by rw [sizeSetRow]; exact h.size⟩
/-- The facts of the control's own block. -/
theorem Two.mine {w W : World} {B : Nat} {c z : Ctl} (h : Two w W B c z) :
    W.cell? ⟨B, 0, none⟩ = some (.int .i64 c.mss) ∧ W.cell? ⟨B, 1, none⟩ = some (.int .i64 c.win) ∧ W.cell? ⟨B, 2, none⟩ = some (.int .i64 c.thr) ∧ W.cell? ⟨B, 3, none⟩ = some (.int .i64 c.dups) ∧ W.cell? ⟨B, 4, none⟩ = some (.bool c.recs) ∧ W.cell? ⟨B, 5, none⟩ = some (.int .u32 c.to) ∧
    (∀ k, W.frozen? ⟨B, k, none⟩ = false) :=
  ⟨(ctl_cells h.own).1, (ctl_cells h.own).2.1, (ctl_cells h.own).2.2.1, (ctl_cells h.own).2.2.2.1, (ctl_cells h.own).2.2.2.2.1, (ctl_cells h.own).2.2.2.2.2, frozRow h.own⟩
def zeroC : Ctl := ⟨0, 0, 0, 0, false, 0⟩
theorem two_new (w : World) (c : Ctl) : Two w ((w.alloc (.cells #[.int .i64 c.mss, .int .i64 c.win, .int .i64 c.thr, .int .i64 c.dups, .bool c.recs, .int .u32 c.to] 26)).alloc (.cells #[.int .i64 0, .int .i64 0, .int .i64 0, .int .i64 0, .bool false, .int .u32 0] 26)) w.heap.size c zeroC := by
  obtain ⟨W, hW, f0, f1, fb, fs⟩ := two_blocks w (.cells #[.int .i64 c.mss, .int .i64 c.win, .int .i64 c.thr, .int .i64 c.dups, .bool c.recs, .int .u32 c.to] 26) (.cells #[.int .i64 0, .int .i64 0, .int .i64 0, .int .i64 0, .bool false, .int .u32 0] 26)
  rw [← hW]
  exact ⟨f0, f1, fb, by omega⟩
def Ctl.timeout (c : Ctl) (f next : Int) : Ctl := Ctl.set { c.lost f next with recs := false, dups := 0 } c.mss
set_option maxHeartbeats 1000000 in
theorem timeout_any (c : Ctl) (f next : Int) (w : World) (hm : 0 ≤ c.mss ∧ c.mss ≤ 65535) (hf : -9223372036854775808 ≤ f ∧ f ≤ 9223372036854775807) :
    Calls Try.prog 10 #[c.v, .int .i64 f, .int .u32 next] w fun e w' => e = .returned (c.timeout f next).v ∧ Below w.heap.size w w' := by
  have H := two_new w c
  rw [Ctl.v_def]
  go_enter Try.func10, Try.ntmps10
  go_wp2_with fail
  generalize (w.alloc _).alloc _ = W at H ⊢
  refine (lost_any c f next W hm hf).mono ?_
  rintro e w1 ⟨rfl, hb1⟩
  replace H := H.after hb1
  clear hb1
  have hmd : (c.lost f next).mss = c.mss := rfl
  generalize hd : c.lost f next = d at *
  have HD := hid hd
  have HM := hid hmd
  clear hd hmd
  have hBl : w.heap.size < w1.heap.size := by have := H.size; omega
  dsimp only
  rename_i hK
  refine hK _ _ ?_
  change wpList _ _ _ _ _ _
  refine wpList_store_row (by rfl) 26 (.tmp 3) (.tmp 10) (by rfl) w.heap.size d.cells (by rfl) (by rfl) 26 c.cells H.own infoC (by rfl) (ctl_one d) ?_
  replace H := H.rowOwn d
  generalize w1.setRow w.heap.size d.cells = W2 at H ⊢
  have hmd : 0 ≤ d.mss ∧ d.mss ≤ 65535 := by rw [HM.out]; exact hm
  obtain ⟨s0, s1, s2, s3, s4, s5, sz⟩ := H.mine
  go_wp2_with fail
  refine (set_any { d with recs := false, dups := 0 } d.mss _).mono ?_
  rintro e w3 ⟨rfl, hb3⟩
  have H3 := (((H.setOwn 4 (.bool false) { d with recs := false } rfl).setOwn 3 (.int .i64 0) { d with recs := false, dups := 0 } rfl)).after hb3
  dsimp only
  rename_i hK
  refine hK _ _ ?_
  refine wpList_store_row (by rfl) 26 (.tmp 6) (.tmp 16) (by rfl) (w.heap.size + 1) (Ctl.cells (Ctl.set { d with recs := false, dups := 0 } d.mss)) (by rfl) (by rfl) 26 _ H3.res infoC (by rfl) (ctl_one _) ?_
  replace H3 := H3.rowRes (Ctl.set { d with recs := false, dups := 0 } d.mss)
  generalize w3.setRow (w.heap.size + 1) _ = W4 at H3 ⊢
  go_wp2_with fail
  refine ctl_ret rfl rfl H3.res ⟨?_, H3.below⟩
  unfold Ctl.timeout
  rw [HD.out, ← HM.out]
end Go.Proofs.Ytkecfdngnbeinaa
