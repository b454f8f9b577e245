/- The control: Acked while it recovers. -/
import Derived.Test.YtkecfdngnbeinaaCongE
namespace Go.Proofs.Ytkecfdngnbeinaa
set_option linter.unusedVariables false
set_option linter.unusedSimpArgs false
open Go.RowKit

theorem Two.alloc {w W : World} {B : Nat} {c z : Ctl} (h : Two w W B c z) (o : Obj) : Two w (W.alloc o) B c z := h.after (below_alloc (Below.refl _ _) o (Nat.le_refl _))
theorem Two.drew {w W : World} {B : Nat} {c z : Ctl} (h : Two w W B c z) : Two w W.drew B c z := h.drewN 1
set_option maxHeartbeats 2000000 in
theorem acked_rec (c : Ctl) (n ack fl : Int) (w : World) (h : Fit c) (hn : 1 ≤ n) (hn2 : n ≤ 9223372036854775807) (hfl : -9223372036854775808 ≤ fl ∧ fl ≤ 9223372036854775807) (hr : c.recs = true) :
    Calls Try.prog 9 #[c.v, .int .i64 n, .int .u32 ack, .int .i64 fl] w fun e w' => (∃ d : Ctl, e = .returned d.v ∧ Acks c d) ∧ Below w.heap.size w w' := by
  obtain ⟨m, wi, t, d, r, o⟩ := c
  obtain ⟨hm, hw, ht⟩ := h
  simp only at hm hw ht hr
  subst hr
  have H := two_new w ⟨m, wi, t, 0, true, o⟩
  have hA : ∀ (x : Int) (r : Bool), 0 ≤ x → Acks ⟨m, wi, t, d, true, o⟩ (Ctl.set ⟨m, wi, t, 0, r, o⟩ x) := fun x r hx =>
    ⟨rfl, rfl, rfl, (fun h => by cases h), by simp only [Ctl.set]; omega⟩
  have HA := hid hA
  clear hA
  unfold Ctl.v
  go_enter Try.func9, Try.ntmps9
  go_wp2_with fail
  generalize (w.alloc _).alloc _ = W at H ⊢
  refine (before_any ack o W).mono ?_
  rintro e w1 ⟨⟨x, rfl⟩, rfl⟩
  obtain ⟨s0, s1, s2, s3, s4, s5⟩ := ctl_cells H.own
  simp only at s0 s1 s2 s3 s4 s5
  have zs := frozRow H.own
  cases x
  case true =>
    have p1 : n ≤ wi → IntKind.i64.wrap (wi - n) = wi - n := fun _ => IntWalk.i64_in _ (by omega)
    have p2 : n ≤ wi → IntKind.i64.wrap (wi - n + m) = wi - n + m := fun _ => IntWalk.i64_in _ (by omega)
    have p3 : IntKind.i64.wrap (0 + m) = 0 + m := IntWalk.i64_in _ (by omega)
    have p4 : IntKind.i64.wrap (wi - wi) = 0 := by rw [show wi - wi = 0 by omega]; rfl
    by_cases k1 : n ≤ wi
    all_goals by_cases k2 : m ≤ n
    all_goals
      (try (have q1 := p1 k1))
      (try (have q2 := p2 k1))
      clear p1 p2
      go_wp2_with fail
    all_goals
      refine (set_any ⟨m, wi, t, 0, true, o⟩ _ W).mono ?_
      rintro e w3 ⟨rfl, hb3⟩
      have H3 := H.after hb3
      generalize hD : Ctl.set ⟨m, wi, t, 0, true, o⟩ _ = D
      have HA2 : Acks ⟨m, wi, t, d, true, o⟩ D := by rw [← hD]; exact HA.out _ _ (by omega)
      dsimp only
      rename_i hK
      refine hK _ _ ?_
      refine wpList_store_row (by rfl) 26 (.tmp 8) (.tmp 44) (by rfl) (w.heap.size + 1) D.cells (by rfl) (by rfl) 26 _ H3.res infoC (by rfl) (ctl_one _) ?_
      have H4 := H3.rowRes D
      generalize w3.setRow (w.heap.size + 1) _ = W4 at H4 ⊢
      go_wp2_with fail
      exact ctl_ret rfl rfl H4.res ⟨⟨D, rfl, HA2⟩, H4.below⟩
  case false =>
    have H1 := H.setOwn 4 (.bool false) ⟨m, wi, t, 0, false, o⟩ rfl
    clear H
    go_wp2_with fail
    generalize W.setCell _ _ = W at H1 ⊢
    obtain ⟨y, hy⟩ : ∃ y, (if fl < m then m else fl) = y := ⟨_, rfl⟩
    have hy1 : 1 ≤ y := by rw [← hy]; split <;> omega
    obtain ⟨x1, hx1⟩ : ∃ x1, min y 1073741824 = x1 := ⟨_, rfl⟩
    have hx2 : 1 ≤ x1 ∧ x1 ≤ 1073741824 := by omega
    have p1 : IntKind.i64.wrap (x1 + m) = x1 + m := IntWalk.i64_in _ (by omega)
    have HL1 := hid (fun b w => least_any y 1073741824 b w)
    rw [hx1] at HL1
    have HS := hid (set_any ⟨m, wi, t, 0, false, o⟩ (min t (x1 + m)))
    have HA2 := HA.out (min t (x1 + m)) false (by omega)
    generalize Ctl.set ⟨m, wi, t, 0, false, o⟩ (min t (x1 + m)) = D at HA2 HS
    clear HA hx1
    have HY := hid hy1
    clear hy1
    have Ha := H1.drew.alloc (.cells #[.int .i64 1073741824] 3)
    have Hb := Ha.alloc (.cells #[.int .i64 (x1 + m)] 3)
    have na : ((W.alloc (.cells #[.int .i64 1073741824] 3)).drew).heap[W.heap.size]? = some (.cells #[.int .i64 1073741824] 3 (0, 0)) := heap_alloc_new W _
    have nb : (((W.alloc (.cells #[.int .i64 1073741824] 3)).alloc (.cells #[.int .i64 (x1 + m)] 3)).drew).heap[W.heap.size + 1]? = some (.cells #[.int .i64 (x1 + m)] 3 (0, 0)) := new2 W _ _
    have K0 : W.drew.cell? ⟨w.heap.size, 0, none⟩ = some (.int .i64 m) ∧ W.drew.cell? ⟨w.heap.size, 1, none⟩ = some (.int .i64 wi) ∧ W.drew.cell? ⟨w.heap.size, 2, none⟩ = some (.int .i64 t) ∧ W.drew.cell? ⟨w.heap.size, 3, none⟩ = some (.int .i64 0) ∧ W.drew.cell? ⟨w.heap.size, 4, none⟩ = some (.bool false) ∧ W.drew.cell? ⟨w.heap.size, 5, none⟩ = some (.int .u32 o) := ctl_cells H1.drew.own
    have K1 : (W.alloc (.cells #[.int .i64 1073741824] 3)).drew.cell? ⟨w.heap.size, 0, none⟩ = some (.int .i64 m) ∧ (W.alloc (.cells #[.int .i64 1073741824] 3)).drew.cell? ⟨w.heap.size, 1, none⟩ = some (.int .i64 wi) ∧ (W.alloc (.cells #[.int .i64 1073741824] 3)).drew.cell? ⟨w.heap.size, 2, none⟩ = some (.int .i64 t) ∧ (W.alloc (.cells #[.int .i64 1073741824] 3)).drew.cell? ⟨w.heap.size, 3, none⟩ = some (.int .i64 0) ∧ (W.alloc (.cells #[.int .i64 1073741824] 3)).drew.cell? ⟨w.heap.size, 4, none⟩ = some (.bool false) ∧ (W.alloc (.cells #[.int .i64 1073741824] 3)).drew.cell? ⟨w.heap.size, 5, none⟩ = some (.int .u32 o) := ctl_cells Ha.own
    have K2 : ((W.alloc (.cells #[.int .i64 1073741824] 3)).alloc (.cells #[.int .i64 (x1 + m)] 3)).drew.cell? ⟨w.heap.size, 0, none⟩ = some (.int .i64 m) ∧ ((W.alloc (.cells #[.int .i64 1073741824] 3)).alloc (.cells #[.int .i64 (x1 + m)] 3)).drew.cell? ⟨w.heap.size, 1, none⟩ = some (.int .i64 wi) ∧ ((W.alloc (.cells #[.int .i64 1073741824] 3)).alloc (.cells #[.int .i64 (x1 + m)] 3)).drew.cell? ⟨w.heap.size, 2, none⟩ = some (.int .i64 t) ∧ ((W.alloc (.cells #[.int .i64 1073741824] 3)).alloc (.cells #[.int .i64 (x1 + m)] 3)).drew.cell? ⟨w.heap.size, 3, none⟩ = some (.int .i64 0) ∧ ((W.alloc (.cells #[.int .i64 1073741824] 3)).alloc (.cells #[.int .i64 (x1 + m)] 3)).drew.cell? ⟨w.heap.size, 4, none⟩ = some (.bool false) ∧ ((W.alloc (.cells #[.int .i64 1073741824] 3)).alloc (.cells #[.int .i64 (x1 + m)] 3)).drew.cell? ⟨w.heap.size, 5, none⟩ = some (.int .u32 o) := ctl_cells Hb.own
    go_region_held3 (fun W' => W'.cell? ⟨w.heap.size, 0, none⟩ = some (.int .i64 m) ∧ W'.cell? ⟨w.heap.size, 1, none⟩ = some (.int .i64 wi) ∧ W'.cell? ⟨w.heap.size, 2, none⟩ = some (.int .i64 t) ∧ W'.cell? ⟨w.heap.size, 3, none⟩ = some (.int .i64 0) ∧ W'.cell? ⟨w.heap.size, 4, none⟩ = some (.bool false) ∧ W'.cell? ⟨w.heap.size, 5, none⟩ = some (.int .u32 o)) (with_reducible assumption)
      (first
        | (go_at_call 18; (with_reducible refine (HL1.out _ _ na).mono ?_); rintro e w3 ⟨rfl, rfl⟩)
        | (go_at_call 18; (with_reducible refine (least_any t (x1 + m) _ _ nb).mono ?_); rintro e w3 ⟨rfl, rfl⟩)
        | (go_at_call 17; refine (HS.out _).mono ?_; rintro e w4 ⟨rfl, hb4⟩; rw [Ctl.v_def D]; have H4 := Hb.after hb4; obtain ⟨r0, r1, r2, r3, r4, r5⟩ := ctl_cells H4.res; have zr := frozRow H4.res; have K4 : w4.cell? ⟨w.heap.size, 0, none⟩ = some (.int .i64 m) ∧ w4.cell? ⟨w.heap.size, 1, none⟩ = some (.int .i64 wi) ∧ w4.cell? ⟨w.heap.size, 2, none⟩ = some (.int .i64 t) ∧ w4.cell? ⟨w.heap.size, 3, none⟩ = some (.int .i64 0) ∧ w4.cell? ⟨w.heap.size, 4, none⟩ = some (.bool false) ∧ w4.cell? ⟨w.heap.size, 5, none⟩ = some (.int .u32 o) := ctl_cells H4.own; have K5 := ctl_cells (H4.putRes D).own; unfold put6 at K5)
        | fail)
    all_goals
      have H5 := H4.putRes D
      go_wp2_with fail
      exact ctl_ret rfl rfl H5.res ⟨⟨D, rfl, HA2⟩, H5.below⟩
end Go.Proofs.Ytkecfdngnbeinaa
