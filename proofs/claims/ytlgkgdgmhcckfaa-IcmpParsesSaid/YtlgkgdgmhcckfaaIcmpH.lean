/- Walk: the reference's Lay. -/
import Derived.Test.YtlgkgdgmhcckfaaIcmpG
import Derived.Test.YtlgkgdgmhcckfaaRegM
namespace Go.Proofs.Ytlgkgdgmhcckfaa
set_option linter.unusedVariables false
set_option linter.unusedSimpArgs false
open Go.RowKit

set_option maxHeartbeats 2000000 in
theorem rlay_any (m : Msg) (hm : m.Ok) (dv : Value) (s d : Adr) (w : World) (hd : RB w dv m.data) (hl : m.data.length ≤ 3000) :
    Calls Try.prog 12 #[m.v dv, .agg s.cells, .agg d.cells] w fun e w' => ∃ A c, e = .returned (.tuple #[.slice A (layS m s d).length c, .int .i64 (lerr m s)]) ∧ OB w' w.heap.size (.slice A (layS m s d).length c) (layS m s d) ∧ Below w.heap.size w w' := by
  have hd0 := hid hd
  obtain ⟨A, c, rfl, hrow⟩ := hd
  have hcap := hrow.cap
  have htop := hrow.top
  clear hrow
  have k0 : s.cells[0]? = some (.bool s.six) := rfl
  have hM := hid (fun W (h : RB W (.slice A m.data.length c) m.data) => rmay_any m (.slice A m.data.length c) s.six W h)
  by_cases hlb : laysB m s = true
  · have hle : layS m s d = bytesS m s.six (65535 - sumS (bytesS m s.six 0) s d) := by unfold layS; rw [hlb]; rfl
    have her : lerr m s = 0 := by unfold lerr; rw [hlb]; rfl
    rw [hle, her]
    have hmay : mayS m s.six = true := by unfold laysB at hlb; revert hlb; cases mayS m s.six <;> simp
    rw [hmay] at hM
    have hms := hmay
    unfold mayS at hms
    simp only [decide_eq_true_eq] at hms
    obtain ⟨_, _, _, _, hk1, hk5, _⟩ := hms
    have hno : s.six = false → m.kind = 3 → m.code = 4 → False := by
      intro h1 h2 h3
      unfold laysB at hlb
      rw [h1, h2, h3] at hlb
      simp at hlb
    have HB := hid fun W ch (h : RB W (.slice A m.data.length c) m.data) (hc : 0 ≤ ch ∧ ch ≤ 65535) => rbytes_any m hm (.slice A m.data.length c) s.six ch W h hl hk1 hk5 hc
    have hbl : Hid ((bytesS m s.six 0).length ≤ 3008) := by unfold Hid; rw [bytesS_length]; omega
    have HX := hid (sumS_range (bytesS m s.six 0) s d)
    clear hle her hlb hmay
    obtain ⟨k, co, i, sq, u, dt⟩ := m
    simp only at *
    have hfour : (s.six = true ∧ (k == 3) = false) ∨ (s.six = true ∧ (k == 3) = true ∧ (co == 4) = false) ∨ (s.six = true ∧ (k == 3) = true ∧ (co == 4) = true) ∨ (s.six = false ∧ (k == 3) = false) ∨ (s.six = false ∧ (k == 3) = true ∧ (co == 4) = false) := by
      cases h6 : s.six <;> by_cases h3 : k = 3 <;> by_cases h4 : co = 4 <;> simp [h3, h4]
      exact hno h6 h3 h4
    clear hno
    go_enter Try.func12, Try.ntmps12
    unfold Msg.v at *
    have hcells : Msg.cells ⟨k, co, i, sq, u, dt⟩ (.slice A dt.length c) = #[.int .i64 k, .int .u8 co, .int .u16 i, .int .u16 sq, .int .u32 u, .slice A dt.length c] := rfl
    have HC := hid hcells
    rw [hcells] at hM ⊢
    clear hcells
    go_wp2_with fail
    generalize hW : ((w.alloc _).alloc _).alloc _ = W
    obtain ⟨f0, f1, f2, fb, fs⟩ := three_facts hW
    clear hW
    with_reducible refine Calls.mono (hM.out W (hd0.out.below fb)) ?_
    rintro e w1 ⟨rfl, hb1⟩
    replace f0 := (hb1.block _ (by omega)).trans f0
    replace f1 := (hb1.block _ (by omega)).trans f1
    replace f2 := (hb1.block _ (by omega)).trans f2
    replace fb := below_after fb hb1 (Nat.le_refl _)
    replace fs : w.heap.size + 3 ≤ w1.heap.size := Nat.le_trans (Nat.le_of_eq fs.symm) hb1.size
    clear hb1
    obtain ⟨c0, c1, c2, c3, c4, c5⟩ := msg_cells (m := ⟨_, _, _, _, _, dt⟩) f0
    simp only at c0 c1 c2 c3 c4 c5
    have q0 := (cellRow f1 0).trans k0
    rcases hfour with ⟨h6, h3⟩ | ⟨h6, h3, h5⟩ | ⟨h6, h3, h5⟩ | ⟨h6, h3⟩ | ⟨h6, h3, h5⟩
    all_goals
      go_wp2_with fail
    all_goals
      have H6 := hid h6
      clear h6 h3
      try clear h5
      clear c0 c1 c2 c3 c4 c5 q0
      rw [← HC.out] at f0 ⊢
      refine wp_region_hand (fun W' => Below (w.heap.size + 3) w1 W') (by kernel_rfl) (below_drewN (Below.refl _ _) 1) ?_
      intro hS
      generalize ({ w1 with drawn := w1.drawn + 1 } : World) = w2 at hS ⊢
      refine wpAnyH_take (i := 0) (oi := ⟨some 28, _, _, _, _, _⟩) rfl (by kernel_rfl) (by kernel_rfl) (by kernel_rfl) (fun _ _ _ h => h) (yields_row 26 (.tmp 3) rfl (by rfl) ⟨w.heap.size, 0, none⟩ rfl (Msg.cells ⟨k, co, i, sq, u, dt⟩ (.slice A dt.length c)) _ (fun W' hS' => cells_part ((hS'.block _ (by omega)).trans f0) (fun j u h => by simpa using h)) Try.underlying26 rfl infoR) hS ?_
      simp only [Act.put, List.setIfInBounds_toArray, List.set_cons_zero, List.set_cons_succ]
      refine wpAnyH_take (i := 1) (oi := ⟨some 29, _, _, _, _, _⟩) (v := ?_) rfl (by kernel_rfl) (by kernel_rfl) (by kernel_rfl) (fun _ _ _ h => h) (Or.inl ⟨by rfl, ?_⟩) hS ?_
      rotate_left 1
      focus ((intro W' hS'; go_simp) <;> with_reducible rfl)
      simp only [Act.put, List.setIfInBounds_toArray, List.set_cons_zero, List.set_cons_succ]
      refine wpAnyH_take (i := 2) (oi := ⟨some 30, _, _, _, _, _⟩) (v := ?_) rfl (by kernel_rfl) (by kernel_rfl) (by kernel_rfl) (fun _ _ _ h => h) (Or.inl ⟨by rfl, ?_⟩) hS ?_
      rotate_left 1
      focus ((intro W' hS'; have q1 := (cellRow ((hS'.block _ (by omega)).trans f1) 0).trans k0; go_simp) <;> with_reducible rfl)
      simp only [Act.put, List.setIfInBounds_toArray, List.set_cons_zero, List.set_cons_succ]
      refine wpAnyH_take (i := 3) (oi := ⟨some 31, _, _, _, _, _⟩) rfl (by kernel_rfl) (by kernel_rfl) (by kernel_rfl) (fun _ _ _ h => h) (yields_row 26 (.tmp 3) rfl (by rfl) ⟨w.heap.size, 0, none⟩ rfl (Msg.cells ⟨k, co, i, sq, u, dt⟩ (.slice A dt.length c)) _ (fun W' hS' => cells_part ((hS'.block _ (by omega)).trans f0) (fun j u h => by simpa using h)) Try.underlying26 rfl infoR) hS ?_
      simp only [Act.put, List.setIfInBounds_toArray, List.set_cons_zero, List.set_cons_succ]
      refine wpAnyH_take (i := 4) (oi := ⟨some 32, _, _, _, _, _⟩) (v := ?_) rfl (by kernel_rfl) (by kernel_rfl) (by kernel_rfl) (fun _ _ _ h => h) (Or.inl ⟨by rfl, ?_⟩) hS ?_
      rotate_left 1
      focus ((intro W' hS'; go_simp) <;> with_reducible rfl)
      simp only [Act.put, List.setIfInBounds_toArray, List.set_cons_zero, List.set_cons_succ]
      refine wpAnyH_take (i := 5) (oi := ⟨some 33, _, _, _, _, _⟩) (v := ?_) rfl (by kernel_rfl) (by kernel_rfl) (by kernel_rfl) (fun _ _ _ h => h) (Or.inl ⟨by rfl, ?_⟩) hS ?_
      rotate_left 1
      focus ((intro W' hS'; have q1 := (cellRow ((hS'.block _ (by omega)).trans f1) 0).trans k0; go_simp) <;> with_reducible rfl)
      simp only [Act.put, List.setIfInBounds_toArray, List.set_cons_zero, List.set_cons_succ]
      refine wpAnyH_take (i := 7) (oi := ⟨some 35, _, _, _, _, _⟩) rfl (by kernel_rfl) (by kernel_rfl) (by kernel_rfl) (fun _ _ _ h => h) (yields_row 29 (.tmp 4) rfl (by rfl) ⟨w.heap.size + 1, 0, none⟩ rfl s.cells _ (fun W' hS' => cells_part ((hS'.block _ (by omega)).trans f1) (fun j u h => by simpa using h)) Try.underlying29 rfl (info_addr s)) hS ?_
      simp only [Act.put, List.setIfInBounds_toArray, List.set_cons_zero, List.set_cons_succ]
      refine wpAnyH_take (i := 8) (oi := ⟨some 36, _, _, _, _, _⟩) rfl (by kernel_rfl) (by kernel_rfl) (by kernel_rfl) (fun _ _ _ h => h) (yields_row 29 (.tmp 5) rfl (by rfl) ⟨w.heap.size + 1 + 1, 0, none⟩ rfl d.cells _ (fun W' hS' => cells_part ((hS'.block _ (by omega)).trans f2) (fun j u h => by simpa using h)) Try.underlying29 rfl (info_addr d)) hS ?_
      simp only [Act.put, List.setIfInBounds_toArray, List.set_cons_zero, List.set_cons_succ]
      have fb2 := fb.trans (hS.mono (by omega))
      have fs2 := Nat.le_trans fs hS.size
      refine anyH_one (i := 6) (by kernel_rfl) ⟨some 34, _, _, _, _, _⟩ rfl (by rfl) ?_
      go_simp
      with_reducible refine Calls.mono (HB.out w2 0 (hd0.out.below fb2) (by omega)) ?_
      rintro e w3 ⟨A3, n3, rfl, ho3, hb3⟩
      have hS3 := hS.trans (hb3.mono fs2)
      refine ⟨hS3, ?_⟩
      clear hS
      have hS := hS3
      clear hS3
      have fs3 := Nat.le_trans fs hS.size
      have fb3 := fb.trans (hS.mono (by omega))
      generalize hL0 : bytesS ⟨k, co, i, sq, u, dt⟩ s.six 0 = L0 at ho3 hbl HX ⊢
      have HL0 := hid hL0
      clear hL0
      have hx := xor_u16 (sumS L0 s d) HX.out.1 HX.out.2
      have hsg : IntKind.u16.signed = false := rfl
      refine anyH_one (i := 9) (by kernel_rfl) ⟨some 37, _, _, _, _, _⟩ rfl (by rfl) ?_
      go_simp
      with_reducible refine Calls.mono (rsumm_any _ L0 s d w3 ho3.rb (Nat.le_trans hbl.out (by omega))) ?_
      rintro e w4 ⟨rfl, hb4⟩
      have hS4 := hS.trans (hb4.mono fs3)
      refine ⟨hS4, ?_⟩
      clear hS
      have hS := hS4
      clear hS4
      have fs4 := Nat.le_trans fs hS.size
      have fb4 := fb.trans (hS.mono (by omega))
      refine wpAnyH_take (i := 10) (oi := ⟨some 38, _, _, _, _, _⟩) (v := ?_) rfl (by kernel_rfl) (by kernel_rfl) (by kernel_rfl) (fun _ _ _ h => h) (Or.inl ⟨by rfl, ?_⟩) hS ?_
      rotate_left 1
      focus ((intro W' hS'; go_simp) <;> with_reducible rfl)
      simp only [Act.put, List.setIfInBounds_toArray, List.set_cons_zero, List.set_cons_succ]
      refine anyH_one (i := 11) (by kernel_rfl) ⟨some 39, _, _, _, _, _⟩ rfl (by rfl) ?_
      go_simp
      with_reducible refine Calls.mono (HB.out w4 (65535 - sumS L0 s d) (hd0.out.below fb4) (by have := HX.out; omega)) ?_
      rintro e w5 ⟨A5, n5, rfl, ho5, hb5⟩
      have hS5 := hS.trans (hb5.mono fs4)
      refine ⟨hS5, ?_⟩
      clear hS
      have hS := hS5
      clear hS5
      have fb5 := fb.trans (hS.mono (by omega))
      refine wpAnyH_take (i := 12) (oi := ⟨some 6, _, _, _, _, _⟩) (v := ?_) rfl (by kernel_rfl) (by kernel_rfl) (by kernel_rfl) (fun _ _ _ h => h) (Or.inl ⟨by rfl, ?_⟩) hS ?_
      rotate_left 1
      focus ((intro W' hS'; go_simp) <;> with_reducible rfl)
      simp only [Act.put, List.setIfInBounds_toArray, List.set_cons_zero, List.set_cons_succ]
      refine wpAnyH_take (i := 13) (oi := ⟨some 7, _, _, _, _, _⟩) (v := ?_) rfl (by kernel_rfl) (by kernel_rfl) (by kernel_rfl) (fun _ _ _ h => h) (Or.inl ⟨by rfl, ?_⟩) hS ?_
      rotate_left 1
      focus ((intro W' hS'; go_simp) <;> with_reducible rfl)
      simp only [Act.put, List.setIfInBounds_toArray, List.set_cons_zero, List.set_cons_succ]
      refine wpAnyH_done (by kernel_rfl) ?_ _
      go_wp2_with fail
      go_ret2
      rw [HL0.out]
      exact ⟨A5, n5, rfl, ho5.lower (by omega), fb5⟩
  · have hle : layS m s d = [] := by unfold layS; rw [if_neg hlb]
    have her : lerr m s = 1 := by unfold lerr; rw [if_neg hlb]
    rw [hle, her]
    clear hle her
    obtain ⟨mb, hmb⟩ : ∃ mb, mb = mayS m s.six := ⟨_, rfl⟩
    rw [← hmb] at hM
    have hw : mb = false ∨ (mb = true ∧ s.six = false ∧ (m.kind == 3) = true ∧ (m.code == 4) = true) := by
      unfold laysB at hlb
      rw [← hmb] at hlb
      cases mb
      · exact .inl rfl
      · right
        revert hlb
        cases s.six <;> simp
    clear hmb hlb
    obtain ⟨k, co, i, sq, u, dt⟩ := m
    simp only at *
    rcases hw with rfl | ⟨rfl, h6, h3, h4⟩
    · skip
      go_enter Try.func12, Try.ntmps12
      unfold Msg.v Msg.cells at *
      go_wp2_with fail
      generalize hW : ((w.alloc _).alloc _).alloc _ = W
      obtain ⟨f0, f1, f2, fb, fs⟩ := three_facts hW
      clear hW
      with_reducible refine Calls.mono (hM.out W (hd0.out.below fb)) ?_
      rintro e w1 ⟨rfl, hb1⟩
      replace f0 := (hb1.block _ (by omega)).trans f0
      replace f1 := (hb1.block _ (by omega)).trans f1
      replace fb := below_after fb hb1 (Nat.le_refl _)
      clear hb1
      obtain ⟨c0, c1, c2, c3, c4, c5⟩ := msg_cells (m := ⟨_, _, _, _, _, dt⟩) f0
      simp only at c0 c1 c2 c3 c4 c5
      have q0 := (cellRow f1 0).trans k0
      go_wp2_with fail
      go_ret2
      exact ⟨none, 0, rfl, OB.nil _ _, fb⟩
    · rw [h6] at k0 hM
      go_enter Try.func12, Try.ntmps12
      unfold Msg.v Msg.cells at *
      go_wp2_with fail
      generalize hW : ((w.alloc _).alloc _).alloc _ = W
      obtain ⟨f0, f1, f2, fb, fs⟩ := three_facts hW
      clear hW
      with_reducible refine Calls.mono (hM.out W (hd0.out.below fb)) ?_
      rintro e w1 ⟨rfl, hb1⟩
      replace f0 := (hb1.block _ (by omega)).trans f0
      replace f1 := (hb1.block _ (by omega)).trans f1
      replace fb := below_after fb hb1 (Nat.le_refl _)
      clear hb1
      obtain ⟨c0, c1, c2, c3, c4, c5⟩ := msg_cells (m := ⟨_, _, _, _, _, dt⟩) f0
      simp only at c0 c1 c2 c3 c4 c5
      have q0 := (cellRow f1 0).trans k0
      go_wp2_with fail
      go_ret2
      exact ⟨none, 0, rfl, OB.nil _ _, fb⟩
end Go.Proofs.Ytlgkgdgmhcckfaa
