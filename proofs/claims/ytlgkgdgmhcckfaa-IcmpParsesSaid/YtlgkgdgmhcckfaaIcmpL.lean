/- Walk of the law IcmpLays. -/
import Derived.Test.YtlgkgdgmhcckfaaIcmpK
namespace Go.Proofs.Ytlgkgdgmhcckfaa
set_option linter.unusedVariables false
set_option linter.unusedSimpArgs false
open Go.RowKit

theorem pair_l (s d : Adr) : ∀ (j : Nat) (u : Value), s.cells[j]? = some u → (s.cells ++ d.cells)[0 + j]? = some u := by
  intro j u h
  have hl := (Array.getElem?_eq_some_iff.1 h).1
  rw [Nat.zero_add, Array.getElem?_append_left hl]; exact h
theorem pair_r (s d : Adr) : ∀ (j : Nat) (u : Value), d.cells[j]? = some u → (s.cells ++ d.cells)[17 + j]? = some u := by
  intro j u h
  rw [Array.getElem?_append_right (by rw [Adr.cells_size]; omega), Adr.cells_size, Nat.add_sub_cancel_left]; exact h
set_option maxHeartbeats 4000000 in
theorem lawLays_any (m n : Msg) (um un : Value) (s d : Adr) (w : World) (hm : m.Ok) (hn : n.Ok) (hu : RB w um m.data) (hv : RB w un n.data) :
    Calls Try.prog 3 #[m.v um, n.v un, .agg (s.cells ++ d.cells)] w fun e w' => e = .returned (.bool true) ∧ Below w.heap.size w w' := by
  have hd0 := hid hu
  have hd1 := hid hv
  obtain ⟨A, c, rfl, hrow⟩ := hu
  obtain ⟨B, cb, rfl, hrow2⟩ := hv
  have hcap := hrow.cap
  have htop := hrow.top
  have hcap2 := hrow2.cap
  have htop2 := hrow2.top
  clear hrow hrow2
  have HF := hid fun W (h : RB W (.slice A m.data.length c) m.data) => far_any m _ W h
  have HF2 := hid fun W (h : RB W (.slice B n.data.length cb) n.data) => far_any n _ W h
  have HT := hid fun W (h : RB W (.slice A m.data.length c) m.data) => theirs_any m _ W h
  have HT2 := hid fun W (h : RB W (.slice B n.data.length cb) n.data) => theirs_any n _ W h
  have HMA := hid fun W (h : RB W (.slice A m.data.length c) m.data) => may_any m _ s.six W h
  have HRM := hid fun W (h : RB W (.slice A m.data.length c) m.data) => rmay_any m _ s.six W h
  have HSM := hid fun W (h : RB W (.slice A m.data.length c) m.data) (h2 : RB W (.slice B n.data.length cb) n.data) => same_any m n _ _ W h h2
  have HRS := hid fun W (h : RB W (.slice A m.data.length c) m.data) (h2 : RB W (.slice B n.data.length cb) n.data) => rsame_any m n _ _ W h h2
  have HMM := hid fun W (h : RB W (.slice A m.data.length c) m.data) => same_any m m _ _ W h h
  have hmm : sameS m m = true := (sameS_iff m m).2 rfl
  rw [hmm] at HMM
  clear hmm
  have k0 : (s.cells ++ d.cells)[0]? = some (.bool s.six) := pair_l s d 0 _ rfl
  by_cases hl : 3000 < m.data.length
  · rw [decide_eq_true hl] at HF
    clear HF2 HT HT2 HMA HRM HSM HRS HMM hl
    obtain ⟨k, co, i, sq, u, dt⟩ := m
    simp only at *
    go_enter Try.func3, Try.ntmps3
    unfold Msg.v Msg.cells at *
    go_wp2_with fail
    generalize hW : ((w.alloc _).alloc _).alloc _ = W
    obtain ⟨f0, f1, f2, fb, fs⟩ := three_facts hW
    clear hW
    with_reducible refine Calls.mono (HF.out W (hd0.out.below fb)) ?_
    rintro e w1 ⟨rfl, hb1⟩
    go_wp2_with fail
    refine Calls.mono (alive_any _) ?_
    rintro e w2 ⟨rfl, hb2⟩
    go_wp2_with fail
    go_ret
    exact ⟨rfl, below_after (below_after fb hb1 (Nat.le_refl _)) hb2 (Nat.le_refl _)⟩
  rw [decide_eq_false hl] at HF
  by_cases hl2 : 3000 < n.data.length
  · rw [decide_eq_true hl2] at HF2
    clear HT HT2 HMA HRM HSM HRS HMM hl hl2
    obtain ⟨k, co, i, sq, u, dt⟩ := m
    obtain ⟨k2, co2, i2, sq2, u2, dt2⟩ := n
    simp only at *
    go_enter Try.func3, Try.ntmps3
    unfold Msg.v Msg.cells at *
    go_wp2_with fail
    generalize hW : ((w.alloc _).alloc _).alloc _ = W
    obtain ⟨f0, f1, f2, fb, fs⟩ := three_facts hW
    clear hW
    with_reducible refine Calls.mono (HF.out W (hd0.out.below fb)) ?_
    rintro e w1 ⟨rfl, hb1⟩
    replace f1 := (hb1.block _ (by omega)).trans f1
    replace fb := below_after fb hb1 (Nat.le_refl _)
    obtain ⟨x0, x1, x2, x3, x4, x5⟩ := msg_cells (m := ⟨_, _, _, _, _, dt2⟩) f1
    simp only at x0 x1 x2 x3 x4 x5
    go_wp2_with fail
    with_reducible refine Calls.mono (HF2.out _ (hd1.out.below fb)) ?_
    rintro e w2 ⟨rfl, hb2⟩
    go_wp2_with fail
    refine Calls.mono (alive_any _) ?_
    rintro e w3 ⟨rfl, hb3⟩
    go_wp2_with fail
    go_ret
    exact ⟨rfl, below_after (below_after fb hb2 (Nat.le_refl _)) hb3 (Nat.le_refl _)⟩
  rw [decide_eq_false hl2] at HF2
  have HL := hid fun W (h : RB W (.slice A m.data.length c) m.data) => lay_any m hm _ s d W h (by omega)
  have HRL := hid fun W (h : RB W (.slice A m.data.length c) m.data) => rlay_any m hm _ s d W h (by omega)
  generalize layS m s d = L at HL HRL
  generalize lerr m s = er at HL HRL
  generalize mayS m s.six = mb at HMA HRM
  generalize sameS m n = sb at HSM HRS
  clear hl hl2 hm hn
  generalize s.six = six at *
  obtain ⟨k, co, i, sq, u, dt⟩ := m
  obtain ⟨k2, co2, i2, sq2, u2, dt2⟩ := n
  simp only at *
  go_enter Try.func3, Try.ntmps3
  unfold Msg.v Msg.cells at *
  go_wp2_with fail
  generalize hW : ((w.alloc _).alloc _).alloc _ = W
  obtain ⟨f0, f1, f2, fb, fs⟩ := three_facts hW
  clear hW
  with_reducible refine Calls.mono (HF.out W (hd0.out.below fb)) ?_
  rintro e w0 ⟨rfl, hb1⟩
  replace f0 := (hb1.block _ (by omega)).trans f0
  replace f1 := (hb1.block _ (by omega)).trans f1
  replace f2 := (hb1.block _ (by omega)).trans f2
  replace fb := below_after fb hb1 (Nat.le_refl _)
  replace fs : w.heap.size + 3 ≤ w0.heap.size := Nat.le_trans (Nat.le_of_eq fs.symm) hb1.size
  obtain ⟨x0, x1, x2, x3, x4, x5⟩ := msg_cells (m := ⟨_, _, _, _, _, dt2⟩) f1
  simp only at x0 x1 x2 x3 x4 x5
  go_wp2_with fail
  with_reducible refine Calls.mono (HF2.out _ (hd1.out.below fb)) ?_
  rintro e w1 ⟨rfl, hb2⟩
  replace f0 := (hb2.block _ (by omega)).trans f0
  replace f1 := (hb2.block _ (by omega)).trans f1
  replace f2 := (hb2.block _ (by omega)).trans f2
  replace fb := below_after fb hb2 (Nat.le_refl _)
  replace fs := Nat.le_trans fs hb2.size
  clear hb1 hb2 x0 x1 x2 x3 x4 x5
  go_wp2_with fail
  refine wp_region_hand (fun W' => Below (w.heap.size + 3) w1 W') (by kernel_rfl) (below_drewN (Below.refl _ _) 1) ?_
  intro hS
  generalize ({ w1 with drawn := w1.drawn + 1 } : World) = w2 at hS ⊢
  refine wpAnyH_take (i := 0) (oi := ⟨some 19, _, _, _, _, _⟩) rfl (by kernel_rfl) (by kernel_rfl) (by kernel_rfl) (fun _ _ _ h => h) (yields_row 26 (.tmp 3) rfl (by rfl) ⟨w.heap.size, 0, none⟩ rfl #[.int .i64 k, .int .u8 co, .int .u16 i, .int .u16 sq, .int .u32 u, .slice A dt.length c] _ (fun W' hS' => cells_part ((hS'.block _ (by omega)).trans f0) (fun j u h => by simpa using h)) Try.underlying26 rfl infoR) hS ?_
  try simp only [Act.put, List.setIfInBounds_toArray, List.set_cons_zero, List.set_cons_succ]
  refine wpAnyH_take (i := 2) (oi := ⟨some 21, _, _, _, _, _⟩) (v := ?_) rfl (by kernel_rfl) (by kernel_rfl) (by kernel_rfl) (fun _ _ _ h => h) (Or.inl ⟨by rfl, ?_⟩) hS ?_
  rotate_left 1
  focus ((intro W' hS'; go_simp) <;> with_reducible rfl)
  try simp only [Act.put, List.setIfInBounds_toArray, List.set_cons_zero, List.set_cons_succ]
  refine wpAnyH_take (i := 3) (oi := ⟨some 22, _, _, _, _, _⟩) rfl (by kernel_rfl) (by kernel_rfl) (by kernel_rfl) (fun _ _ _ h => h) (yields_row 29 (.tmp 21) rfl (by rfl) ⟨w.heap.size + 1 + 1, 0, none⟩ rfl s.cells _ (fun W' hS' => cells_part ((hS'.block _ (by omega)).trans f2) (pair_l s d)) Try.underlying29 rfl (info_addr s)) hS ?_
  try simp only [Act.put, List.setIfInBounds_toArray, List.set_cons_zero, List.set_cons_succ]
  refine wpAnyH_take (i := 4) (oi := ⟨some 23, _, _, _, _, _⟩) (v := ?_) rfl (by kernel_rfl) (by kernel_rfl) (by kernel_rfl) (fun _ _ _ h => h) (Or.inl ⟨by rfl, ?_⟩) hS ?_
  rotate_left 1
  focus ((intro W' hS'; go_simp) <;> with_reducible rfl)
  try simp only [Act.put, List.setIfInBounds_toArray, List.set_cons_zero, List.set_cons_succ]
  refine wpAnyH_take (i := 5) (oi := ⟨some 24, _, _, _, _, _⟩) rfl (by kernel_rfl) (by kernel_rfl) (by kernel_rfl) (fun _ _ _ h => h) (yields_row 29 (.tmp 23) rfl (by rfl) ⟨w.heap.size + 1 + 1, 17, none⟩ rfl d.cells _ (fun W' hS' => cells_part ((hS'.block _ (by omega)).trans f2) (pair_r s d)) Try.underlying29 rfl (info_addr d)) hS ?_
  try simp only [Act.put, List.setIfInBounds_toArray, List.set_cons_zero, List.set_cons_succ]
  refine anyH_one (i := 1) (by kernel_rfl) ⟨some 20, _, _, _, _, _⟩ rfl (by rfl) ?_
  go_simp
  with_reducible refine Calls.mono (HT.out _ (hd0.out.below (fb.trans (hS.mono (by omega))))) ?_
  rintro e w4 ⟨rfl, hb4⟩
  have hS4 := hS.trans (hb4.mono (Nat.le_trans fs hS.size))
  clear hS
  have hS := hS4
  clear hS4
  refine ⟨hS, ?_⟩
  refine anyH_one (i := 6) (by kernel_rfl) ⟨some 25, _, _, _, _, _⟩ rfl (by rfl) ?_
  go_simp
  with_reducible refine Calls.mono (HL.out _ (hd0.out.below (fb.trans (hS.mono (by omega))))) ?_
  rintro e w5 ⟨A5, n5, rfl, ho5, hb5⟩
  have hr5 := ho5.rb
  have hS5 := hS.trans (hb5.mono (Nat.le_trans fs hS.size))
  clear hS ho5
  have hS := hS5
  clear hS5
  refine ⟨hS, ?_⟩
  refine wpAnyH_take (i := 7) (oi := ⟨some 18, _, _, _, _, _⟩) (v := ?_) rfl (by kernel_rfl) (by kernel_rfl) (by kernel_rfl) (fun _ _ _ h => h) (Or.inl ⟨by rfl, ?_⟩) hS ?_
  rotate_left 1
  focus ((intro W' hS'; go_simp) <;> with_reducible rfl)
  try simp only [Act.put, List.setIfInBounds_toArray, List.set_cons_zero, List.set_cons_succ]
  refine wpAnyH_take (i := 8) (oi := ⟨some 26, _, _, _, _, _⟩) (v := ?_) rfl (by kernel_rfl) (by kernel_rfl) (by kernel_rfl) (fun _ _ _ h => h) (Or.inl ⟨by rfl, ?_⟩) hS ?_
  rotate_left 1
  focus ((intro W' hS'; go_simp) <;> with_reducible rfl)
  try simp only [Act.put, List.setIfInBounds_toArray, List.set_cons_zero, List.set_cons_succ]
  refine wpAnyH_take (i := 9) (oi := ⟨some 27, _, _, _, _, _⟩) (v := ?_) rfl (by kernel_rfl) (by kernel_rfl) (by kernel_rfl) (fun _ _ _ h => h) (Or.inl ⟨by rfl, ?_⟩) hS ?_
  rotate_left 1
  focus ((intro W' hS'; go_simp) <;> with_reducible rfl)
  try simp only [Act.put, List.setIfInBounds_toArray, List.set_cons_zero, List.set_cons_succ]
  refine wpAnyH_take (i := 10) (oi := ⟨some 7, _, _, _, _, _⟩) (v := ?_) rfl (by kernel_rfl) (by kernel_rfl) (by kernel_rfl) (fun _ _ _ h => h) (Or.inl ⟨by rfl, ?_⟩) hS ?_
  rotate_left 1
  focus ((intro W' hS'; go_simp) <;> with_reducible rfl)
  try simp only [Act.put, List.setIfInBounds_toArray, List.set_cons_zero, List.set_cons_succ]
  refine wpAnyH_take (i := 11) (oi := ⟨some 8, _, _, _, _, _⟩) (v := ?_) rfl (by kernel_rfl) (by kernel_rfl) (by kernel_rfl) (fun _ _ _ h => h) (Or.inl ⟨by rfl, ?_⟩) hS ?_
  rotate_left 1
  focus ((intro W' hS'; go_simp) <;> with_reducible rfl)
  try simp only [Act.put, List.setIfInBounds_toArray, List.set_cons_zero, List.set_cons_succ]
  refine wpAnyH_done (by kernel_rfl) ?_ _
  clear hb4 hb5
  replace f0 := (hS.block _ (by omega)).trans f0
  replace f1 := (hS.block _ (by omega)).trans f1
  replace f2 := (hS.block _ (by omega)).trans f2
  replace fb := fb.trans (hS.mono (by omega))
  replace fs := Nat.le_trans fs hS.size
  clear hS
  obtain ⟨c0, c1, c2, c3, c4, c5⟩ := msg_cells (m := ⟨_, _, _, _, _, dt⟩) f0
  simp only at c0 c1 c2 c3 c4 c5
  go_wp2_with (first
    | refine wpList_load_at 29 (.tmp 30) rfl rfl ⟨w.heap.size + 1 + 1, 0, none⟩ rfl s.cells _ (cells_part f2 (pair_l s d)) Try.underlying29 rfl (info_addr s) ?_
    | refine wpList_load_at 29 (.tmp 32) rfl rfl ⟨w.heap.size + 1 + 1, 17, none⟩ rfl d.cells _ (cells_part f2 (pair_r s d)) Try.underlying29 rfl (info_addr d) ?_)
  with_reducible refine Calls.mono (HRL.out _ (hd0.out.below fb)) ?_
  rintro e w6 ⟨A6, n6, rfl, ho6, hb6⟩
  have hr6 := ho6.rb
  replace f0 := (hb6.block _ (by omega)).trans f0
  replace f1 := (hb6.block _ (by omega)).trans f1
  replace f2 := (hb6.block _ (by omega)).trans f2
  replace fb := below_after fb hb6 (Nat.le_refl _)
  replace fs := Nat.le_trans fs hb6.size
  replace hr5 := hr5.below hb6
  clear hb6 ho6 c0 c1 c2 c3 c4 c5
  go_wp2_with fail
  refine wp_region_later w6.heap.size (Nat.le_refl _) (by kernel_rfl) (by kernel_rfl) ?_
  have g := fun x : Later w6.heap.size w6 => msg_cells (m := ⟨_, _, _, _, _, dt⟩) (x.blk f0 (by omega))
  have g' := fun x : Later w6.heap.size w6 => msg_cells (m := ⟨_, _, _, _, _, dt2⟩) (x.blk f1 (by omega))
  have q0 := fun x : Later w6.heap.size w6 => (cellRow (x.blk f2 (by omega)) 0).trans k0
  simp only [forall_and] at g g'
  obtain ⟨c0, c1, c2, c3, c4, c5⟩ := g
  obtain ⟨y0, y1, y2, y3, y4, y5⟩ := g'
  have r5 := fun x : Later w6.heap.size w6 => conv_str (hr5.below x.ok)
  have r6 := fun x : Later w6.heap.size w6 => conv_str (hr6.below x.ok)
  have D0 := hid fun x : Later w6.heap.size w6 => hd0.out.below (fb.trans (x.ok.mono (by omega)))
  have D1 := hid fun x : Later w6.heap.size w6 => hd1.out.below (fb.trans (x.ok.mono (by omega)))
  clear f0 f1 f2 fs hr5 hr6
  repeat (go_big_quiet_step (first
    | (go_at_call 11; first | (with_reducible exact quiet_later _ (Nat.le_refl _) (HT.out _ (D0.out _))) | (with_reducible exact quiet_later _ (Nat.le_refl _) (HT2.out _ (D1.out _))))
    | (go_at_call 13; with_reducible exact quiet_later _ (Nat.le_refl _) (HMA.out _ (D0.out _)))
    | (go_at_call 14; with_reducible exact quiet_later _ (Nat.le_refl _) (HRM.out _ (D0.out _)))
    | (go_at_call 15; first | (with_reducible exact quiet_later _ (Nat.le_refl _) (HSM.out _ (D0.out _) (D1.out _))) | (with_reducible exact quiet_later _ (Nat.le_refl _) (HMM.out _ (D0.out _))))
    | (go_at_call 16; with_reducible exact quiet_later _ (Nat.le_refl _) (HRS.out _ (D0.out _) (D1.out _)))
    | (go_at_call 9; exact quiet_later _ (Nat.le_refl _) (alive_any _))))
  refine wpQuiet_nil ?_
  rintro _ ⟨x, rfl⟩
  go_wp2_with fail
  go_ret
  exact ⟨rfl, fb.trans (x.ok.mono (by have := fb.size; omega))⟩
end Go.Proofs.Ytlgkgdgmhcckfaa
