/- Walk of the law IcmpBack. -/
import Derived.Test.YtlgkgdgmhcckfaaIcmpL
namespace Go.Proofs.Ytlgkgdgmhcckfaa
set_option linter.unusedVariables false
set_option linter.unusedSimpArgs false
open Go.RowKit

set_option maxHeartbeats 4000000 in
theorem lawBack_any (m : Msg) (um : Value) (s d : Adr) (w : World) (hm : m.Ok) (hu : RB w um m.data) :
    Calls Try.prog 5 #[m.v um, .agg (s.cells ++ d.cells)] w fun e w' => e = .returned (.bool true) ∧ Below w.heap.size w w' := by
  have hd0 := hid hu
  obtain ⟨A, c, rfl, hrow⟩ := hu
  have hcap := hrow.cap
  have htop := hrow.top
  clear hrow
  have HF := hid fun W (h : RB W (.slice A m.data.length c) m.data) => far_any m _ W h
  have HT := hid fun W (h : RB W (.slice A m.data.length c) m.data) => theirs_any m _ W h
  have HMA := hid fun W (h : RB W (.slice A m.data.length c) m.data) => may_any m _ s.six W h
  have k0 : (s.cells ++ d.cells)[0]? = some (.bool s.six) := pair_l s d 0 _ rfl
  by_cases hl : 3000 < m.data.length
  · rw [decide_eq_true hl] at HF
    clear HT HMA hl
    obtain ⟨k, co, i, sq, u, dt⟩ := m
    simp only at *
    go_enter Try.func5, Try.ntmps5
    unfold Msg.v Msg.cells at *
    go_wp2_with fail
    generalize hW : (w.alloc _).alloc _ = W
    obtain ⟨f0, f2, fb, fs⟩ := two_facts hW
    clear hW
    with_reducible refine Calls.mono (HF.out W (hd0.out.below fb)) ?_
    rintro e w1 ⟨rfl, hb1⟩
    go_wp2_with fail
    refine Calls.mono (alive_any _) ?_
    rintro e w2 ⟨rfl, hb2⟩
    go_wp2_with fail
    go_ret
    exact ⟨rfl, below_after (below_after fb hb1 (Nat.le_refl _)) hb2 (Nat.le_refl _)⟩
  rw [decide_eq_false hl] at HF
  have HL := hid fun W (h : RB W (.slice A m.data.length c) m.data) => lay_any m hm _ s d W h (by omega)
  by_cases hlb : laysB m s = true
  · have hps := parse_lay m hm s d hlb
    have her : lerr m s = 0 := by unfold lerr; rw [hlb]; rfl
    have hLl : (layS m s d).length = 8 + m.data.length := by
      unfold layS; rw [if_pos hlb, bytesS_length]
    rw [her] at HL
    have HP := hid fun v W (h : RB W v (layS m s d)) => parse_any v (layS m s d) s d W h (by omega)
    rw [hps.1, hps.2] at HP
    generalize layS m s d = L at HL HP hLl
    have HSM := hid fun v W (h : RB W v m.data) (h2 : RB W (.slice A m.data.length c) m.data) => same_any m m v _ W h h2
    rw [(sameS_iff m m).2 rfl] at HSM
    have hLb : ((L.length : Int) == 8 + (m.data.length : Int)) = true := by simp; omega
    have hwr : IntKind.i64.wrap (8 + (m.data.length : Int)) = 8 + (m.data.length : Int) := IntWalk.i64_in _ (by omega)
    clear her hlb hps hLl hm hl
    generalize s.six = six at *
    obtain ⟨k, co, i, sq, u, dt⟩ := m
    simp only at *
    go_enter Try.func5, Try.ntmps5
    unfold Msg.v Msg.cells at *
    go_wp2_with fail
    generalize hW : (w.alloc _).alloc _ = W
    obtain ⟨f0, f2, fb, fs⟩ := two_facts hW
    clear hW
    with_reducible refine Calls.mono (HF.out W (hd0.out.below fb)) ?_
    rintro e w1 ⟨rfl, hb1⟩
    replace f0 := (hb1.block _ (by omega)).trans f0
    replace f2 := (hb1.block _ (by omega)).trans f2
    replace fb := below_after fb hb1 (Nat.le_refl _)
    replace fs : w.heap.size + 2 ≤ w1.heap.size := Nat.le_trans (Nat.le_of_eq fs.symm) hb1.size
    clear hb1
    go_wp2_with fail
    refine wp_region_hand (fun W' => Below (w.heap.size + 2) w1 W') (by kernel_rfl) (below_drewN (Below.refl _ _) 1) ?_
    intro hS
    generalize ({ w1 with drawn := w1.drawn + 1 } : World) = w2 at hS ⊢
    refine wpAnyH_take (i := 0) (oi := ⟨some 13, _, _, _, _, _⟩) rfl (by kernel_rfl) (by kernel_rfl) (by kernel_rfl) (fun _ _ _ h => h) (yields_row 26 (.tmp 2) rfl (by rfl) ⟨w.heap.size, 0, none⟩ rfl #[.int .i64 k, .int .u8 co, .int .u16 i, .int .u16 sq, .int .u32 u, .slice A dt.length c] _ (fun W' hS' => cells_part ((hS'.block _ (by omega)).trans f0) (fun j u h => by simpa using h)) Try.underlying26 rfl infoR) hS ?_
    try simp only [Act.put, List.setIfInBounds_toArray, List.set_cons_zero, List.set_cons_succ]
    refine wpAnyH_take (i := 2) (oi := ⟨some 15, _, _, _, _, _⟩) (v := ?_) rfl (by kernel_rfl) (by kernel_rfl) (by kernel_rfl) (fun _ _ _ h => h) (Or.inl ⟨by rfl, ?_⟩) hS ?_
    rotate_left 1
    focus ((intro W' hS'; go_simp) <;> with_reducible rfl)
    try simp only [Act.put, List.setIfInBounds_toArray, List.set_cons_zero, List.set_cons_succ]
    refine wpAnyH_take (i := 3) (oi := ⟨some 16, _, _, _, _, _⟩) rfl (by kernel_rfl) (by kernel_rfl) (by kernel_rfl) (fun _ _ _ h => h) (yields_row 29 (.tmp 15) rfl (by rfl) ⟨w.heap.size + 1, 0, none⟩ rfl s.cells _ (fun W' hS' => cells_part ((hS'.block _ (by omega)).trans f2) (pair_l s d)) Try.underlying29 rfl (info_addr s)) hS ?_
    try simp only [Act.put, List.setIfInBounds_toArray, List.set_cons_zero, List.set_cons_succ]
    refine wpAnyH_take (i := 4) (oi := ⟨some 17, _, _, _, _, _⟩) (v := ?_) rfl (by kernel_rfl) (by kernel_rfl) (by kernel_rfl) (fun _ _ _ h => h) (Or.inl ⟨by rfl, ?_⟩) hS ?_
    rotate_left 1
    focus ((intro W' hS'; go_simp) <;> with_reducible rfl)
    try simp only [Act.put, List.setIfInBounds_toArray, List.set_cons_zero, List.set_cons_succ]
    refine wpAnyH_take (i := 5) (oi := ⟨some 18, _, _, _, _, _⟩) rfl (by kernel_rfl) (by kernel_rfl) (by kernel_rfl) (fun _ _ _ h => h) (yields_row 29 (.tmp 17) rfl (by rfl) ⟨w.heap.size + 1, 17, none⟩ rfl d.cells _ (fun W' hS' => cells_part ((hS'.block _ (by omega)).trans f2) (pair_r s d)) Try.underlying29 rfl (info_addr d)) hS ?_
    try simp only [Act.put, List.setIfInBounds_toArray, List.set_cons_zero, List.set_cons_succ]
    refine anyH_one (i := 1) (by kernel_rfl) ⟨some 14, _, _, _, _, _⟩ rfl (by rfl) ?_
    go_simp
    with_reducible refine Calls.mono (HT.out _ (hd0.out.below (fb.trans (hS.mono (by omega))))) ?_
    rintro e w4 ⟨rfl, hb4⟩
    have hS4 := hS.trans (hb4.mono (Nat.le_trans fs hS.size))
    clear hS
    have hS := hS4
    clear hS4
    refine ⟨hS, ?_⟩
    refine anyH_one (i := 6) (by kernel_rfl) ⟨some 19, _, _, _, _, _⟩ rfl (by rfl) ?_
    go_simp
    with_reducible refine Calls.mono (HL.out _ (hd0.out.below (fb.trans (hS.mono (by omega))))) ?_
    rintro e w5 ⟨A5, n5, rfl, ho5, hb5⟩
    have hr5 := ho5.rb
    have hS5 := hS.trans (hb5.mono (Nat.le_trans fs hS.size))
    clear hS ho5
    have hS := hS5
    clear hS5
    refine ⟨hS, ?_⟩
    refine wpAnyH_take (i := 7) (oi := ⟨some 12, _, _, _, _, _⟩) (v := ?_) rfl (by kernel_rfl) (by kernel_rfl) (by kernel_rfl) (fun _ _ _ h => h) (Or.inl ⟨by rfl, ?_⟩) hS ?_
    rotate_left 1
    focus ((intro W' hS'; go_simp) <;> with_reducible rfl)
    try simp only [Act.put, List.setIfInBounds_toArray, List.set_cons_zero, List.set_cons_succ]
    refine wpAnyH_take (i := 8) (oi := ⟨some 20, _, _, _, _, _⟩) (v := ?_) rfl (by kernel_rfl) (by kernel_rfl) (by kernel_rfl) (fun _ _ _ h => h) (Or.inl ⟨by rfl, ?_⟩) hS ?_
    rotate_left 1
    focus ((intro W' hS'; go_simp) <;> with_reducible rfl)
    try simp only [Act.put, List.setIfInBounds_toArray, List.set_cons_zero, List.set_cons_succ]
    refine wpAnyH_take (i := 9) (oi := ⟨some 21, _, _, _, _, _⟩) (v := ?_) rfl (by kernel_rfl) (by kernel_rfl) (by kernel_rfl) (fun _ _ _ h => h) (Or.inl ⟨by rfl, ?_⟩) hS ?_
    rotate_left 1
    focus ((intro W' hS'; go_simp) <;> with_reducible rfl)
    try simp only [Act.put, List.setIfInBounds_toArray, List.set_cons_zero, List.set_cons_succ]
    refine wpAnyH_take (i := 10) (oi := ⟨some 5, _, _, _, _, _⟩) (v := ?_) rfl (by kernel_rfl) (by kernel_rfl) (by kernel_rfl) (fun _ _ _ h => h) (Or.inl ⟨by rfl, ?_⟩) hS ?_
    rotate_left 1
    focus ((intro W' hS'; go_simp) <;> with_reducible rfl)
    try simp only [Act.put, List.setIfInBounds_toArray, List.set_cons_zero, List.set_cons_succ]
    refine wpAnyH_take (i := 11) (oi := ⟨some 6, _, _, _, _, _⟩) (v := ?_) rfl (by kernel_rfl) (by kernel_rfl) (by kernel_rfl) (fun _ _ _ h => h) (Or.inl ⟨by rfl, ?_⟩) hS ?_
    rotate_left 1
    focus ((intro W' hS'; go_simp) <;> with_reducible rfl)
    try simp only [Act.put, List.setIfInBounds_toArray, List.set_cons_zero, List.set_cons_succ]
    refine wpAnyH_done (by kernel_rfl) ?_ _
    clear hb4 hb5
    replace f0 := (hS.block _ (by omega)).trans f0
    replace f2 := (hS.block _ (by omega)).trans f2
    replace fb := fb.trans (hS.mono (by omega))
    replace fs := Nat.le_trans fs hS.size
    clear hS
    go_wp2_with (first
      | refine wpList_load_at 29 (.tmp 46) rfl rfl ⟨w.heap.size + 1, 0, none⟩ rfl s.cells _ (cells_part f2 (pair_l s d)) Try.underlying29 rfl (info_addr s) ?_
      | refine wpList_load_at 29 (.tmp 48) rfl rfl ⟨w.heap.size + 1, 17, none⟩ rfl d.cells _ (cells_part f2 (pair_r s d)) Try.underlying29 rfl (info_addr d) ?_)
    with_reducible refine Calls.mono (HP.out _ _ hr5) ?_
    rintro e w6 ⟨dv, rfl, hdv, hb6⟩
    have hdv0 := hdv
    obtain ⟨A6, n6, rfl, _⟩ := hdv
    replace f0 := (hb6.block _ (by omega)).trans f0
    replace f2 := (hb6.block _ (by omega)).trans f2
    replace fb := below_after fb hb6 (Nat.le_refl _)
    replace fs := Nat.le_trans fs hb6.size
    replace hr5 := hr5.below hb6
    clear hb6
    go_wp2_with fail
    generalize hW : w6.alloc _ = w7
    obtain ⟨f7, hb7, fs7⟩ := one_facts hW
    clear hW
    replace f0 := (hb7.block _ (by omega)).trans f0
    replace f2 := (hb7.block _ (by omega)).trans f2
    replace fb := below_after fb hb7 (Nat.le_refl _)
    replace hr5 := hr5.below hb7
    replace hdv0 := hdv0.below hb7
    have HS7 := hid fs7
    replace fs := Nat.le_trans fs hb7.size
    clear hb7
    have l7 : w6.heap.size < w7.heap.size := by omega
    generalize w6.heap.size = X7 at f7 l7 ⊢
    clear fs7
    refine wp_region_later w7.heap.size (Nat.le_refl _) (by kernel_rfl) (by kernel_rfl) ?_
    have g := fun x : Later w7.heap.size w7 => msg_cells (m := ⟨_, _, _, _, _, dt⟩) (x.blk f0 (by omega))
    have q0 := fun x : Later w7.heap.size w7 => (cellRow (x.blk f2 (by omega)) 0).trans k0
    simp only [forall_and] at g
    obtain ⟨c0, c1, c2, c3, c4, c5⟩ := g
    have D0 := hid fun x : Later w7.heap.size w7 => hd0.out.below (fb.trans (x.ok.mono (by omega)))
    have g7 := fun x : Later w7.heap.size w7 => msg_cells (m := ⟨_, _, _, _, _, dt⟩) (x.blk f7 l7)
    simp only [forall_and] at g7
    obtain ⟨y0, y1, y2, y3, y4, y5⟩ := g7
    have D7 := hid fun x : Later w7.heap.size w7 => hdv0.below x.ok
    clear f0 f2 f7 fs hr5 hdv0 HS7
    repeat (go_big_quiet_step (first
      | (go_at_call 11; with_reducible exact quiet_later _ (Nat.le_refl _) (HT.out _ (D0.out _)))
      | (go_at_call 15; with_reducible exact quiet_later _ (Nat.le_refl _) (HSM.out _ _ (D7.out _) (D0.out _)))
      | (go_at_call 9; exact quiet_later _ (Nat.le_refl _) (alive_any _))))
    refine wpQuiet_nil ?_
    rintro _ ⟨x, rfl⟩
    go_wp2_with fail
    go_ret
    exact ⟨rfl, fb.trans (x.ok.mono (by have := fb.size; omega))⟩
  · have her : lerr m s = 1 := by unfold lerr; rw [if_neg hlb]
    have hL0 : layS m s d = [] := by unfold layS; rw [if_neg hlb]
    rw [her, hL0] at HL
    obtain ⟨mb, hmb⟩ : ∃ mb, mb = mayS m s.six := ⟨_, rfl⟩
    rw [← hmb] at HMA
    have hw : mb = false ∨ (mb = true ∧ (m.code == 4) = true) := by
      unfold laysB at hlb
      rw [← hmb] at hlb
      cases mb
      · exact .inl rfl
      · right
        revert hlb
        cases s.six <;> simp
    clear her hL0 hmb hlb hm hl
    generalize s.six = six at *
    obtain ⟨k, co, i, sq, u, dt⟩ := m
    simp only at *
    have HW := hid hw
    clear hw
    go_enter Try.func5, Try.ntmps5
    unfold Msg.v Msg.cells at *
    go_wp2_with fail
    generalize hW : (w.alloc _).alloc _ = W
    obtain ⟨f0, f2, fb, fs⟩ := two_facts hW
    clear hW
    with_reducible refine Calls.mono (HF.out W (hd0.out.below fb)) ?_
    rintro e w1 ⟨rfl, hb1⟩
    replace f0 := (hb1.block _ (by omega)).trans f0
    replace f2 := (hb1.block _ (by omega)).trans f2
    replace fb := below_after fb hb1 (Nat.le_refl _)
    replace fs : w.heap.size + 2 ≤ w1.heap.size := Nat.le_trans (Nat.le_of_eq fs.symm) hb1.size
    clear hb1
    go_wp2_with fail
    refine wp_region_hand (fun W' => Below (w.heap.size + 2) w1 W') (by kernel_rfl) (below_drewN (Below.refl _ _) 1) ?_
    intro hS
    generalize ({ w1 with drawn := w1.drawn + 1 } : World) = w2 at hS ⊢
    refine wpAnyH_take (i := 0) (oi := ⟨some 13, _, _, _, _, _⟩) rfl (by kernel_rfl) (by kernel_rfl) (by kernel_rfl) (fun _ _ _ h => h) (yields_row 26 (.tmp 2) rfl (by rfl) ⟨w.heap.size, 0, none⟩ rfl #[.int .i64 k, .int .u8 co, .int .u16 i, .int .u16 sq, .int .u32 u, .slice A dt.length c] _ (fun W' hS' => cells_part ((hS'.block _ (by omega)).trans f0) (fun j u h => by simpa using h)) Try.underlying26 rfl infoR) hS ?_
    try simp only [Act.put, List.setIfInBounds_toArray, List.set_cons_zero, List.set_cons_succ]
    refine wpAnyH_take (i := 2) (oi := ⟨some 15, _, _, _, _, _⟩) (v := ?_) rfl (by kernel_rfl) (by kernel_rfl) (by kernel_rfl) (fun _ _ _ h => h) (Or.inl ⟨by rfl, ?_⟩) hS ?_
    rotate_left 1
    focus ((intro W' hS'; go_simp) <;> with_reducible rfl)
    try simp only [Act.put, List.setIfInBounds_toArray, List.set_cons_zero, List.set_cons_succ]
    refine wpAnyH_take (i := 3) (oi := ⟨some 16, _, _, _, _, _⟩) rfl (by kernel_rfl) (by kernel_rfl) (by kernel_rfl) (fun _ _ _ h => h) (yields_row 29 (.tmp 15) rfl (by rfl) ⟨w.heap.size + 1, 0, none⟩ rfl s.cells _ (fun W' hS' => cells_part ((hS'.block _ (by omega)).trans f2) (pair_l s d)) Try.underlying29 rfl (info_addr s)) hS ?_
    try simp only [Act.put, List.setIfInBounds_toArray, List.set_cons_zero, List.set_cons_succ]
    refine wpAnyH_take (i := 4) (oi := ⟨some 17, _, _, _, _, _⟩) (v := ?_) rfl (by kernel_rfl) (by kernel_rfl) (by kernel_rfl) (fun _ _ _ h => h) (Or.inl ⟨by rfl, ?_⟩) hS ?_
    rotate_left 1
    focus ((intro W' hS'; go_simp) <;> with_reducible rfl)
    try simp only [Act.put, List.setIfInBounds_toArray, List.set_cons_zero, List.set_cons_succ]
    refine wpAnyH_take (i := 5) (oi := ⟨some 18, _, _, _, _, _⟩) rfl (by kernel_rfl) (by kernel_rfl) (by kernel_rfl) (fun _ _ _ h => h) (yields_row 29 (.tmp 17) rfl (by rfl) ⟨w.heap.size + 1, 17, none⟩ rfl d.cells _ (fun W' hS' => cells_part ((hS'.block _ (by omega)).trans f2) (pair_r s d)) Try.underlying29 rfl (info_addr d)) hS ?_
    try simp only [Act.put, List.setIfInBounds_toArray, List.set_cons_zero, List.set_cons_succ]
    refine anyH_one (i := 1) (by kernel_rfl) ⟨some 14, _, _, _, _, _⟩ rfl (by rfl) ?_
    go_simp
    with_reducible refine Calls.mono (HT.out _ (hd0.out.below (fb.trans (hS.mono (by omega))))) ?_
    rintro e w4 ⟨rfl, hb4⟩
    have hS4 := hS.trans (hb4.mono (Nat.le_trans fs hS.size))
    clear hS
    have hS := hS4
    clear hS4
    refine ⟨hS, ?_⟩
    refine anyH_one (i := 6) (by kernel_rfl) ⟨some 19, _, _, _, _, _⟩ rfl (by rfl) ?_
    go_simp
    with_reducible refine Calls.mono (HL.out _ (hd0.out.below (fb.trans (hS.mono (by omega))))) ?_
    rintro e w5 ⟨A5, n5, rfl, ho5, hb5⟩
    have hr5 := ho5.rb
    have hS5 := hS.trans (hb5.mono (Nat.le_trans fs hS.size))
    clear hS ho5
    have hS := hS5
    clear hS5
    refine ⟨hS, ?_⟩
    refine wpAnyH_take (i := 7) (oi := ⟨some 12, _, _, _, _, _⟩) (v := ?_) rfl (by kernel_rfl) (by kernel_rfl) (by kernel_rfl) (fun _ _ _ h => h) (Or.inl ⟨by rfl, ?_⟩) hS ?_
    rotate_left 1
    focus ((intro W' hS'; go_simp) <;> with_reducible rfl)
    try simp only [Act.put, List.setIfInBounds_toArray, List.set_cons_zero, List.set_cons_succ]
    refine wpAnyH_take (i := 8) (oi := ⟨some 20, _, _, _, _, _⟩) (v := ?_) rfl (by kernel_rfl) (by kernel_rfl) (by kernel_rfl) (fun _ _ _ h => h) (Or.inl ⟨by rfl, ?_⟩) hS ?_
    rotate_left 1
    focus ((intro W' hS'; go_simp) <;> with_reducible rfl)
    try simp only [Act.put, List.setIfInBounds_toArray, List.set_cons_zero, List.set_cons_succ]
    refine wpAnyH_take (i := 9) (oi := ⟨some 21, _, _, _, _, _⟩) (v := ?_) rfl (by kernel_rfl) (by kernel_rfl) (by kernel_rfl) (fun _ _ _ h => h) (Or.inl ⟨by rfl, ?_⟩) hS ?_
    rotate_left 1
    focus ((intro W' hS'; go_simp) <;> with_reducible rfl)
    try simp only [Act.put, List.setIfInBounds_toArray, List.set_cons_zero, List.set_cons_succ]
    refine wpAnyH_take (i := 10) (oi := ⟨some 5, _, _, _, _, _⟩) (v := ?_) rfl (by kernel_rfl) (by kernel_rfl) (by kernel_rfl) (fun _ _ _ h => h) (Or.inl ⟨by rfl, ?_⟩) hS ?_
    rotate_left 1
    focus ((intro W' hS'; go_simp) <;> with_reducible rfl)
    try simp only [Act.put, List.setIfInBounds_toArray, List.set_cons_zero, List.set_cons_succ]
    refine wpAnyH_take (i := 11) (oi := ⟨some 6, _, _, _, _, _⟩) (v := ?_) rfl (by kernel_rfl) (by kernel_rfl) (by kernel_rfl) (fun _ _ _ h => h) (Or.inl ⟨by rfl, ?_⟩) hS ?_
    rotate_left 1
    focus ((intro W' hS'; go_simp) <;> with_reducible rfl)
    try simp only [Act.put, List.setIfInBounds_toArray, List.set_cons_zero, List.set_cons_succ]
    refine wpAnyH_done (by kernel_rfl) ?_ _
    clear hb4 hb5
    replace f0 := (hS.block _ (by omega)).trans f0
    replace f2 := (hS.block _ (by omega)).trans f2
    replace fb := fb.trans (hS.mono (by omega))
    replace fs := Nat.le_trans fs hS.size
    clear hS
    go_wp2_with fail
    refine wp_region_later w5.heap.size (Nat.le_refl _) (by kernel_rfl) (by kernel_rfl) ?_
    have g := fun x : Later w5.heap.size w5 => msg_cells (m := ⟨_, _, _, _, _, dt⟩) (x.blk f0 (by omega))
    have q0 := fun x : Later w5.heap.size w5 => (cellRow (x.blk f2 (by omega)) 0).trans k0
    simp only [forall_and] at g
    obtain ⟨c0, c1, c2, c3, c4, c5⟩ := g
    have D0 := hid fun x : Later w5.heap.size w5 => hd0.out.below (fb.trans (x.ok.mono (by omega)))
    clear f0 f2 fs hr5
    have HAL := hid alive_any
    rcases HW.out with rfl | ⟨rfl, h4⟩
    all_goals
      repeat (go_big_quiet_step (first
        | (go_at_call 11; with_reducible exact quiet_later _ (Nat.le_refl _) (HT.out _ (D0.out _)))
        | (go_at_call 13; with_reducible exact quiet_later _ (Nat.le_refl _) (HMA.out _ (D0.out _)))
        | (go_at_call 9; exact quiet_later _ (Nat.le_refl _) (alive_any _))))
      refine wpQuiet_nil ?_
      rintro _ ⟨x, rfl⟩
      go_wp2_with fail
      go_ret
      exact ⟨rfl, fb.trans (x.ok.mono (by have := fb.size; omega))⟩
end Go.Proofs.Ytlgkgdgmhcckfaa
