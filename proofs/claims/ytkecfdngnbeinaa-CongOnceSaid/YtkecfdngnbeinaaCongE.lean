/- The control: Acked. -/
import Derived.Test.YtkecfdngnbeinaaCongD
namespace Go.Proofs.Ytkecfdngnbeinaa
set_option linter.unusedVariables false
set_option linter.unusedSimpArgs false
open Go.RowKit

/-- What an acknowledgement leaves. -/
structure Acks (c d : Ctl) : Prop where
  mss : d.mss = c.mss
  thr : d.thr = c.thr
  dups : d.dups = 0
  recs : c.recs = false → d.recs = false ∧ c.win ≤ d.win
  win : 0 ≤ d.win ∧ d.win ≤ 1073741824
structure Fit (c : Ctl) : Prop where
  mss : 1 ≤ c.mss ∧ c.mss ≤ 65535
  win : 0 ≤ c.win ∧ c.win ≤ 1073741824
  thr : 0 ≤ c.thr ∧ c.thr ≤ 1073741824
theorem acked_less (c : Ctl) (n ack fl : Int) (w : World) (hn : n < 1) :
    Calls Try.prog 9 #[c.v, .int .i64 n, .int .u32 ack, .int .i64 fl] w fun e w' => e = .returned c.v ∧ Below w.heap.size w w' := by
  obtain ⟨m, wi, t, d, r, o⟩ := c
  unfold Ctl.v
  go_enter Try.func9, Try.ntmps9
  go_wp2_with fail
  exact ctl_ret (c := ⟨m, wi, t, d, r, o⟩) rfl rfl (new2 w _ _) ⟨rfl, below2 w _ _⟩
set_option maxHeartbeats 1000000 in
theorem acked_slow (c : Ctl) (n ack fl : Int) (w : World) (h : Fit c) (hn : 1 ≤ n) (hn2 : n ≤ 9223372036854775807) (hr : c.recs = false) (hlt : c.win < c.thr) :
    Calls Try.prog 9 #[c.v, .int .i64 n, .int .u32 ack, .int .i64 fl] w fun e w' => (∃ d : Ctl, e = .returned d.v ∧ Acks c d) ∧ Below w.heap.size w w' := by
  obtain ⟨m, wi, t, d, r, o⟩ := c
  obtain ⟨hm, hw, ht⟩ := h
  simp only at hm hw ht hr hlt
  subst hr
  have H := two_new w ⟨m, wi, t, 0, false, o⟩
  have w1 : IntKind.i64.wrap (wi + n) = wi + n ∨ m < n := by
    by_cases k : m < n
    · exact .inr k
    · exact .inl (IntWalk.i64_in _ (by omega))
  have w2 : IntKind.i64.wrap (wi + m) = wi + m := IntWalk.i64_in _ (by omega)
  have hA : ∀ x, (x = wi + n ∨ x = wi + m) → Acks ⟨m, wi, t, d, false, o⟩ (Ctl.set ⟨m, wi, t, 0, false, o⟩ x) := fun x hx =>
    ⟨rfl, rfl, rfl, fun _ => ⟨rfl, by simp only [Ctl.set]; omega⟩, by simp only [Ctl.set]; omega⟩
  have HA := hid hA
  clear hA
  by_cases k : m < n
  · unfold Ctl.v
    go_enter Try.func9, Try.ntmps9
    go_wp2_with fail
    generalize (w.alloc _).alloc _ = W at H ⊢
    refine (set_any ⟨m, wi, t, 0, false, o⟩ (wi + m) W).mono ?_
    rintro e w3 ⟨rfl, hb3⟩
    replace H := H.after hb3
    have HA2 := HA.out (wi + m) (.inr rfl)
    generalize Ctl.set ⟨m, wi, t, 0, false, o⟩ (wi + m) = D at HA2 ⊢
    dsimp only
    rename_i hK
    refine hK _ _ ?_
    refine wpList_store_row (by rfl) 26 (.tmp 8) (.tmp 78) (by rfl) (w.heap.size + 1) D.cells (by rfl) (by rfl) 26 _ H.res infoC (by rfl) (ctl_one _) ?_
    replace H := H.rowRes D
    generalize w3.setRow (w.heap.size + 1) _ = W4 at H ⊢
    go_wp2_with fail
    exact ctl_ret rfl rfl H.res ⟨⟨D, rfl, HA2⟩, H.below⟩
  · replace w1 := w1.resolve_right k
    unfold Ctl.v
    go_enter Try.func9, Try.ntmps9
    go_wp2_with fail
    generalize (w.alloc _).alloc _ = W at H ⊢
    refine (set_any ⟨m, wi, t, 0, false, o⟩ (wi + n) W).mono ?_
    rintro e w3 ⟨rfl, hb3⟩
    replace H := H.after hb3
    have HA2 := HA.out (wi + n) (.inl rfl)
    generalize Ctl.set ⟨m, wi, t, 0, false, o⟩ (wi + n) = D at HA2 ⊢
    dsimp only
    rename_i hK
    refine hK _ _ ?_
    refine wpList_store_row (by rfl) 26 (.tmp 8) (.tmp 78) (by rfl) (w.heap.size + 1) D.cells (by rfl) (by rfl) 26 _ H.res infoC (by rfl) (ctl_one _) ?_
    replace H := H.rowRes D
    generalize w3.setRow (w.heap.size + 1) _ = W4 at H ⊢
    go_wp2_with fail
    exact ctl_ret rfl rfl H.res ⟨⟨D, rfl, HA2⟩, H.below⟩
set_option maxHeartbeats 2000000 in
theorem acked_full (c : Ctl) (n ack fl : Int) (w : World) (h : Fit c) (hn : 1 ≤ n) (hn2 : n ≤ 9223372036854775807) (hr : c.recs = false) (hge : c.thr ≤ c.win) :
    Calls Try.prog 9 #[c.v, .int .i64 n, .int .u32 ack, .int .i64 fl] w fun e w' => (∃ d : Ctl, e = .returned d.v ∧ Acks c d) ∧ Below w.heap.size w w' := by
  obtain ⟨m, wi, t, d, r, o⟩ := c
  obtain ⟨hm, hw, ht⟩ := h
  simp only at hm hw ht hr hge
  subst hr
  have H := two_new w ⟨m, wi, t, 0, false, o⟩
  obtain ⟨mm, hmm⟩ : ∃ mm, mm = m * m := ⟨_, rfl⟩
  have b1 : 1 ≤ mm := by rw [hmm]; exact Int.le_trans (by omega) (Int.mul_le_mul hm.1 hm.1 (by omega) (by omega))
  have b2 : mm ≤ 4294836225 := by rw [hmm]; exact Int.le_trans (Int.mul_le_mul hm.2 hm.2 (by omega) (by omega)) (by omega)
  have p1 : IntKind.i64.wrap (m * m) = mm := by rw [← hmm]; exact IntWalk.i64_in _ (by omega)
  clear hmm
  have hA : ∀ x, wi ≤ x → Acks ⟨m, wi, t, d, false, o⟩ (Ctl.set ⟨m, wi, t, 0, false, o⟩ x) := fun x hx =>
    ⟨rfl, rfl, rfl, fun _ => ⟨rfl, by simp only [Ctl.set]; omega⟩, by simp only [Ctl.set]; omega⟩
  have HA := hid hA
  clear hA
  have hq : ∀ v, 1 ≤ v → 0 ≤ mm.tdiv v ∧ mm.tdiv v ≤ 4294836225 := fun v hv => by
    rw [Int.tdiv_eq_ediv_of_nonneg (by omega)]
    exact ⟨Int.ediv_nonneg (by omega) (by omega), Int.le_trans (Int.ediv_le_self _ (by omega)) b2⟩
  have HQ := hid hq
  clear hq
  by_cases k1 : wi < 1
  · have hwi : 0 ≤ wi := hw.1
    have q1 : mm.tdiv 1 = mm := Int.tdiv_one mm
    have p2 : IntKind.i64.wrap mm = mm := IntWalk.i64_in _ (by omega)
    have e2 : (if mm < 1 then (1 : Int) else mm) = mm := if_neg (by omega)
    have p3 : IntKind.i64.wrap (wi + mm) = wi + mm := IntWalk.i64_in _ (by omega)
    have HS := hid (set_any ⟨m, wi, t, 0, false, o⟩ (wi + mm))
    have HA2 := HA.out (wi + mm) (by omega)
    generalize Ctl.set ⟨m, wi, t, 0, false, o⟩ (wi + mm) = D at HA2 HS
    clear HA
    unfold Ctl.v
    go_enter Try.func9, Try.ntmps9
    go_wp2_with fail
    generalize (w.alloc _).alloc _ = W at H ⊢
    have K0 : W.drew.cell? ⟨w.heap.size, 0, none⟩ = some (.int .i64 m) ∧ W.drew.cell? ⟨w.heap.size, 1, none⟩ = some (.int .i64 wi) ∧ W.drew.cell? ⟨w.heap.size, 2, none⟩ = some (.int .i64 t) ∧ W.drew.cell? ⟨w.heap.size, 3, none⟩ = some (.int .i64 0) ∧ W.drew.cell? ⟨w.heap.size, 4, none⟩ = some (.bool false) ∧ W.drew.cell? ⟨w.heap.size, 5, none⟩ = some (.int .u32 o) := ctl_cells (H.drewN 1).own
    go_region_held3 (fun W' => W'.cell? ⟨w.heap.size, 0, none⟩ = some (.int .i64 m) ∧ W'.cell? ⟨w.heap.size, 1, none⟩ = some (.int .i64 wi) ∧ W'.cell? ⟨w.heap.size, 2, none⟩ = some (.int .i64 t) ∧ W'.cell? ⟨w.heap.size, 3, none⟩ = some (.int .i64 0) ∧ W'.cell? ⟨w.heap.size, 4, none⟩ = some (.bool false) ∧ W'.cell? ⟨w.heap.size, 5, none⟩ = some (.int .u32 o)) (with_reducible assumption)
      (first
        | (go_at_call 17; refine (HS.out _).mono ?_; rintro e w4 ⟨rfl, hb4⟩; rw [Ctl.v_def D]; have H4 := (H.drewN 1).after hb4; obtain ⟨r0, r1, r2, r3, r4, r5⟩ := ctl_cells H4.res; have zr := frozRow H4.res; have K4 : w4.cell? ⟨w.heap.size, 0, none⟩ = some (.int .i64 m) ∧ w4.cell? ⟨w.heap.size, 1, none⟩ = some (.int .i64 wi) ∧ w4.cell? ⟨w.heap.size, 2, none⟩ = some (.int .i64 t) ∧ w4.cell? ⟨w.heap.size, 3, none⟩ = some (.int .i64 0) ∧ w4.cell? ⟨w.heap.size, 4, none⟩ = some (.bool false) ∧ w4.cell? ⟨w.heap.size, 5, none⟩ = some (.int .u32 o) := ctl_cells H4.own; have K5 := ctl_cells (H4.putRes D).own; unfold put6 at K5)
        | fail)
    all_goals
      have H5 := H4.putRes D
      go_wp2_with fail
      exact ctl_ret rfl rfl H5.res ⟨⟨D, rfl, HA2⟩, H5.below⟩
  obtain ⟨q, hq⟩ : ∃ q, mm.tdiv wi = q := ⟨_, rfl⟩
  have bq := HQ.out wi (by omega)
  rw [hq] at bq
  have p2 : IntKind.i64.wrap q = q := IntWalk.i64_in _ (by omega)
  have p3 : IntKind.i64.wrap (wi + q) = wi + q := IntWalk.i64_in _ (by omega)
  have p4 : IntKind.i64.wrap (wi + 1) = wi + 1 := IntWalk.i64_in _ (by omega)
  have k4 : 1 ≤ wi := by omega
  have k5 : ¬ wi = 0 := by omega
  have k6 : (wi == 0) = false := by simp; omega
  have e7 : (if wi < 1 then (1 : Int) else wi) = wi := if_neg (by omega)
  clear HQ
  by_cases k2 : q < 1
  · have HS := hid (set_any ⟨m, wi, t, 0, false, o⟩ (wi + 1))
    have HA2 := HA.out (wi + 1) (by omega)
    generalize Ctl.set ⟨m, wi, t, 0, false, o⟩ (wi + 1) = D at HA2 HS
    clear HA
    unfold Ctl.v
    go_enter Try.func9, Try.ntmps9
    go_wp2_with fail
    generalize (w.alloc _).alloc _ = W at H ⊢
    have K0 : W.drew.cell? ⟨w.heap.size, 0, none⟩ = some (.int .i64 m) ∧ W.drew.cell? ⟨w.heap.size, 1, none⟩ = some (.int .i64 wi) ∧ W.drew.cell? ⟨w.heap.size, 2, none⟩ = some (.int .i64 t) ∧ W.drew.cell? ⟨w.heap.size, 3, none⟩ = some (.int .i64 0) ∧ W.drew.cell? ⟨w.heap.size, 4, none⟩ = some (.bool false) ∧ W.drew.cell? ⟨w.heap.size, 5, none⟩ = some (.int .u32 o) := ctl_cells (H.drewN 1).own
    go_region_held3 (fun W' => W'.cell? ⟨w.heap.size, 0, none⟩ = some (.int .i64 m) ∧ W'.cell? ⟨w.heap.size, 1, none⟩ = some (.int .i64 wi) ∧ W'.cell? ⟨w.heap.size, 2, none⟩ = some (.int .i64 t) ∧ W'.cell? ⟨w.heap.size, 3, none⟩ = some (.int .i64 0) ∧ W'.cell? ⟨w.heap.size, 4, none⟩ = some (.bool false) ∧ W'.cell? ⟨w.heap.size, 5, none⟩ = some (.int .u32 o)) (with_reducible assumption)
      (first
        | (go_at_call 17; refine (HS.out _).mono ?_; rintro e w4 ⟨rfl, hb4⟩; rw [Ctl.v_def D]; have H4 := (H.drewN 1).after hb4; obtain ⟨r0, r1, r2, r3, r4, r5⟩ := ctl_cells H4.res; have zr := frozRow H4.res; have K4 : w4.cell? ⟨w.heap.size, 0, none⟩ = some (.int .i64 m) ∧ w4.cell? ⟨w.heap.size, 1, none⟩ = some (.int .i64 wi) ∧ w4.cell? ⟨w.heap.size, 2, none⟩ = some (.int .i64 t) ∧ w4.cell? ⟨w.heap.size, 3, none⟩ = some (.int .i64 0) ∧ w4.cell? ⟨w.heap.size, 4, none⟩ = some (.bool false) ∧ w4.cell? ⟨w.heap.size, 5, none⟩ = some (.int .u32 o) := ctl_cells H4.own; have K5 := ctl_cells (H4.putRes D).own; unfold put6 at K5)
        | fail)
    all_goals
      have H5 := H4.putRes D
      go_wp2_with fail
      exact ctl_ret rfl rfl H5.res ⟨⟨D, rfl, HA2⟩, H5.below⟩
  · have e2 : (if q < 1 then (1 : Int) else q) = q := if_neg k2
    clear k2
    have HS := hid (set_any ⟨m, wi, t, 0, false, o⟩ (wi + q))
    have HA2 := HA.out (wi + q) (by omega)
    generalize Ctl.set ⟨m, wi, t, 0, false, o⟩ (wi + q) = D at HA2 HS
    clear HA
    unfold Ctl.v
    go_enter Try.func9, Try.ntmps9
    go_wp2_with fail
    generalize (w.alloc _).alloc _ = W at H ⊢
    have K0 : W.drew.cell? ⟨w.heap.size, 0, none⟩ = some (.int .i64 m) ∧ W.drew.cell? ⟨w.heap.size, 1, none⟩ = some (.int .i64 wi) ∧ W.drew.cell? ⟨w.heap.size, 2, none⟩ = some (.int .i64 t) ∧ W.drew.cell? ⟨w.heap.size, 3, none⟩ = some (.int .i64 0) ∧ W.drew.cell? ⟨w.heap.size, 4, none⟩ = some (.bool false) ∧ W.drew.cell? ⟨w.heap.size, 5, none⟩ = some (.int .u32 o) := ctl_cells (H.drewN 1).own
    go_region_held3 (fun W' => W'.cell? ⟨w.heap.size, 0, none⟩ = some (.int .i64 m) ∧ W'.cell? ⟨w.heap.size, 1, none⟩ = some (.int .i64 wi) ∧ W'.cell? ⟨w.heap.size, 2, none⟩ = some (.int .i64 t) ∧ W'.cell? ⟨w.heap.size, 3, none⟩ = some (.int .i64 0) ∧ W'.cell? ⟨w.heap.size, 4, none⟩ = some (.bool false) ∧ W'.cell? ⟨w.heap.size, 5, none⟩ = some (.int .u32 o)) (with_reducible assumption)
      (first
        | (go_at_call 17; refine (HS.out _).mono ?_; rintro e w4 ⟨rfl, hb4⟩; rw [Ctl.v_def D]; have H4 := (H.drewN 1).after hb4; obtain ⟨r0, r1, r2, r3, r4, r5⟩ := ctl_cells H4.res; have zr := frozRow H4.res; have K4 : w4.cell? ⟨w.heap.size, 0, none⟩ = some (.int .i64 m) ∧ w4.cell? ⟨w.heap.size, 1, none⟩ = some (.int .i64 wi) ∧ w4.cell? ⟨w.heap.size, 2, none⟩ = some (.int .i64 t) ∧ w4.cell? ⟨w.heap.size, 3, none⟩ = some (.int .i64 0) ∧ w4.cell? ⟨w.heap.size, 4, none⟩ = some (.bool false) ∧ w4.cell? ⟨w.heap.size, 5, none⟩ = some (.int .u32 o) := ctl_cells H4.own; have K5 := ctl_cells (H4.putRes D).own; unfold put6 at K5)
        | fail)
    all_goals
      have H5 := H4.putRes D
      go_wp2_with fail
      exact ctl_ret rfl rfl H5.res ⟨⟨D, rfl, HA2⟩, H5.below⟩
end Go.Proofs.Ytkecfdngnbeinaa
