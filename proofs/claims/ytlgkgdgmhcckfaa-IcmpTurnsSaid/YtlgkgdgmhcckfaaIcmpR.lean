/- Walk of the law IcmpTurns. -/
import Derived.Test.YtlgkgdgmhcckfaaIcmpO
import Derived.Deep.Cut
namespace Go.Proofs.Ytlgkgdgmhcckfaa
set_option linter.unusedVariables false
set_option linter.unusedSimpArgs false
open Go.RowKit

set_option maxHeartbeats 4000000 in
theorem lawTurns_any (m : Msg) (um v : Value) (p : List UInt8) (six : Bool) (w : World) (hm : m.Ok) (hu : RB w um m.data) (hv : RB w v p) :
    Calls Try.prog 7 #[m.v um, v, .bool six] w fun e w' => e = .returned (.bool true) ∧ Below w.heap.size w w' := by
  have hd0 := hid hu
  have hp0 := hid hv
  obtain ⟨A, c, rfl, hrow⟩ := hu
  obtain ⟨B, cb, rfl, hrow2⟩ := hv
  have hcap := hrow.cap
  have htop := hrow.top
  have hcap2 := hrow2.cap
  have htop2 := hrow2.top
  clear hrow hrow2
  have HF := hid fun W (h : RB W (.slice A m.data.length c) m.data) => far_any m _ W h
  by_cases hl : 3000 < m.data.length
  · rw [decide_eq_true hl] at HF
    clear hl
    obtain ⟨k, co, i, sq, u, dt⟩ := m
    simp only at *
    go_enter Try.func7, Try.ntmps7
    unfold Msg.v Msg.cells at *
    go_wp2_with fail
    generalize hW : w.alloc _ = W
    obtain ⟨f0, fb, fs⟩ := one_facts hW
    clear hW
    with_reducible refine Calls.mono (HF.out W (hd0.out.below fb)) ?_
    rintro e w1 ⟨rfl, hb1⟩
    go_wp2_with fail
    refine Calls.mono (alive_any _) ?_
    rintro e w2 ⟨rfl, hb2⟩
    go_wp2_with fail
    go_ret
    exact ⟨rfl, below_after (below_after fb hb1 (Nat.le_refl _)) hb2 (Nat.le_refl _)⟩
  rw [decide_eq_false hl] at HF
  by_cases hl2 : 3000 < p.length
  · have hd2 : decide ((3000 : Int) < (p.length : Int)) = true := by simp; omega
    clear hl hl2
    obtain ⟨k, co, i, sq, u, dt⟩ := m
    simp only at *
    go_enter Try.func7, Try.ntmps7
    unfold Msg.v Msg.cells at *
    go_wp2_with fail
    generalize hW : w.alloc _ = W
    obtain ⟨f0, fb, fs⟩ := one_facts hW
    clear hW
    with_reducible refine Calls.mono (HF.out W (hd0.out.below fb)) ?_
    rintro e w1 ⟨rfl, hb1⟩
    go_wp2_with fail
    refine Calls.mono (alive_any _) ?_
    rintro e w2 ⟨rfl, hb2⟩
    go_wp2_with fail
    go_ret
    exact ⟨rfl, below_after (below_after fb hb1 (Nat.le_refl _)) hb2 (Nat.le_refl _)⟩
  have hd2 : decide ((3000 : Int) < (p.length : Int)) = false := by simp; omega
  have HT := hid fun W (h : RB W (.slice A m.data.length c) m.data) => theirs_any m _ W h
  have HRE := hid fun W (h : RB W (.slice A m.data.length c) m.data) => reply_any m _ W h (by omega)
  have HRR := hid fun W (h : RB W (.slice A m.data.length c) m.data) => rreply_any m _ W h (by omega)
  have HO := hid fun (v : Value) W (h : RB W v (replyS m).data) => ours_any (replyS m) v W h
  have HRS := hid fun (u v : Value) W (h : RB W u (replyS m).data) (h2 : RB W v (replyS m).data) => rsame_any (replyS m) (replyS m) u v W h h2
  rw [(sameS_iff (replyS m) (replyS m)).2 rfl] at HRS
  have HAB := hid fun W (h : RB W (.slice B p.length cb) p) => about_any m.kind _ p six W h (by omega)
  have HRAB := hid fun W (h : RB W (.slice B p.length cb) p) => rabout_any m.kind _ p six W h (by omega)
  have HO2 := hid fun (v : Value) W (h : RB W v (aboutS m.kind p six).data) => ours_any (aboutS m.kind p six) v W h
  have HRS2 := hid fun (u v : Value) W (h : RB W u (aboutS m.kind p six).data) (h2 : RB W v (aboutS m.kind p six).data) => rsame_any (aboutS m.kind p six) (aboutS m.kind p six) u v W h h2
  rw [(sameS_iff (aboutS m.kind p six) (aboutS m.kind p six)).2 rfl] at HRS2
  generalize replyS m = rp at HRE HRR HO HRS
  generalize decide (m.kind = 1) = okb at HRE HRR
  generalize aboutS m.kind p six = ab at HAB HRAB HO2 HRS2
  clear hl hl2 hm
  obtain ⟨k, co, i, sq, u, dt⟩ := m
  obtain ⟨rk, rc, ri, rs, ru, rd⟩ := rp
  obtain ⟨ak, ac, ai, asq, au, aq⟩ := ab
  simp only at *
  go_enter Try.func7, Try.ntmps7
  unfold Msg.v Msg.cells at *
  go_wp2_with fail
  generalize hW : w.alloc _ = W
  obtain ⟨f0, fb, fs⟩ := one_facts hW
  clear hW
  with_reducible refine Calls.mono (HF.out W (hd0.out.below fb)) ?_
  rintro e w1 ⟨rfl, hb1⟩
  replace f0 := (hb1.block _ (by omega)).trans f0
  replace fb := below_after fb hb1 (Nat.le_refl _)
  replace fs : w.heap.size + 1 ≤ w1.heap.size := Nat.le_trans (Nat.le_of_eq fs.symm) hb1.size
  clear hb1
  obtain ⟨c0, c1, c2, c3, c4, c5⟩ := msg_cells (m := ⟨_, _, _, _, _, dt⟩) f0
  simp only at c0 c1 c2 c3 c4 c5
  go_wp2_with fail
  with_reducible refine Calls.mono (HT.out _ (hd0.out.below fb)) ?_
  rintro e w2 ⟨rfl, hb2⟩
  replace f0 := (hb2.block _ (by omega)).trans f0
  replace fb := below_after fb hb2 (Nat.le_refl _)
  replace fs := Nat.le_trans fs hb2.size
  clear hb2 c0 c1 c2 c3 c4 c5
  go_wp2_with fail
  with_reducible refine Calls.mono (HRE.out _ (hd0.out.below fb)) ?_
  rintro e w3 ⟨dv1, rfl, hr1, hb3⟩
  have hr1' := hr1
  obtain ⟨A1, n1, rfl, _⟩ := hr1'
  replace f0 := (hb3.block _ (by omega)).trans f0
  replace fb := below_after fb hb3 (Nat.le_refl _)
  replace fs := Nat.le_trans fs hb3.size
  clear hb3
  go_upto_region 4 with fail
  generalize hW : w3.alloc _ = w4
  obtain ⟨fX, hb4, fs4⟩ := one_facts hW
  clear hW
  replace f0 := (hb4.block _ (by omega)).trans f0
  replace fb := below_after fb hb4 (Nat.le_refl _)
  replace hr1 := hr1.below hb4
  have lX : w3.heap.size < w4.heap.size := by omega
  have l0X : w.heap.size < w3.heap.size := by omega
  generalize w3.heap.size = X at *
  clear hb4 fs4
  obtain ⟨c0, c1, c2, c3, c4, c5⟩ := msg_cells (m := ⟨_, _, _, _, _, dt⟩) f0
  simp only at c0 c1 c2 c3 c4 c5
  go_wp2_with fail
  with_reducible refine Calls.mono (HRR.out _ (hd0.out.below fb)) ?_
  rintro e w4' ⟨dv2, rfl, hr2, hb5⟩
  have hr2' := hr2
  obtain ⟨A2, n2, rfl, _⟩ := hr2'
  replace f0 := (hb5.block _ (by omega)).trans f0
  replace fX := (hb5.block _ (by omega)).trans fX
  replace fb := below_after fb hb5 (Nat.le_refl _)
  replace hr1 := hr1.below hb5
  replace lX := Nat.lt_of_lt_of_le lX hb5.size
  clear hb5 c0 c1 c2 c3 c4 c5
  go_upto_region 5 with fail
  generalize hW : w4'.alloc _ = w5
  obtain ⟨fY, hb6, fs6⟩ := one_facts hW
  clear hW
  replace f0 := (hb6.block _ (by omega)).trans f0
  replace fX := (hb6.block _ (by omega)).trans fX
  replace fb := below_after fb hb6 (Nat.le_refl _)
  replace hr1 := hr1.below hb6
  replace hr2 := hr2.below hb6
  have lY : w4'.heap.size < w5.heap.size := by omega
  replace lX := Nat.lt_of_lt_of_le lX hb6.size
  generalize w4'.heap.size = Y at *
  clear hb6 fs6
  have c0 := (msg_cells (m := ⟨_, _, _, _, _, dt⟩) f0).1
  simp only at c0
  refine wp_region_hand (fun W' => Below w5.heap.size w5 W') (by kernel_rfl) (below_drewN (Below.refl _ _) 1) ?_
  intro hS
  have hr1 := hr1.drewN 1
  have hr2 := hr2.drewN 1
  change RB ({ w5 with drawn := w5.drawn + 1 } : World) _ _ at hr1
  change RB ({ w5 with drawn := w5.drawn + 1 } : World) _ _ at hr2
  generalize ({ w5 with drawn := w5.drawn + 1 } : World) = w6 at hS hr1 hr2 ⊢
  refine wpAnyH_take (i := 0) (oi := ⟨some 30, _, _, _, _, _⟩) rfl (by kernel_rfl) (by kernel_rfl) (by kernel_rfl) (fun _ _ _ h => h) (yields_row 36 (.tmp 7) rfl (by rfl) ⟨X, 0, none⟩ rfl #[.int .i64 rk, .int .u8 rc, .int .u16 ri, .int .u16 rs, .int .u32 ru, .slice A1 rd.length n1] _ (fun W' hS' => cells_part ((hS'.block _ (by omega)).trans fX) (fun j u h => by simpa using h)) Try.underlying36 rfl infoM) hS ?_
  try simp only [Act.put, List.setIfInBounds_toArray, List.set_cons_zero, List.set_cons_succ]
  refine wpAnyH_take (i := 2) (oi := ⟨some 32, _, _, _, _, _⟩) rfl (by kernel_rfl) (by kernel_rfl) (by kernel_rfl) (fun _ _ _ h => h) (yields_row 26 (.tmp 9) rfl (by rfl) ⟨Y, 0, none⟩ rfl #[.int .i64 rk, .int .u8 rc, .int .u16 ri, .int .u16 rs, .int .u32 ru, .slice A2 rd.length n2] _ (fun W' hS' => cells_part ((hS'.block _ (by omega)).trans fY) (fun j u h => by simpa using h)) Try.underlying26 rfl infoR) hS ?_
  try simp only [Act.put, List.setIfInBounds_toArray, List.set_cons_zero, List.set_cons_succ]
  refine anyH_one (i := 1) (by kernel_rfl) ⟨some 31, _, _, _, _, _⟩ rfl (by rfl) ?_
  go_simp
  with_reducible refine Calls.mono (HO.out _ _ hr1) ?_
  rintro e wN ⟨rfl, hbN⟩
  have hS1 := hS.trans (hbN.mono hS.size)
  try have hr1 := hr1.below hbN
  try have hr2 := hr2.below hbN
  try have hr3 := hr3.below hbN
  try have hr4 := hr4.below hbN
  clear hS
  have hS := hS1
  clear hS1 hbN
  refine ⟨hS, ?_⟩
  refine anyH_one (i := 3) (by kernel_rfl) ⟨some 33, _, _, _, _, _⟩ rfl (by rfl) ?_
  go_simp
  with_reducible refine Calls.mono (HRS.out _ _ _ hr1 hr2) ?_
  rintro e wN ⟨rfl, hbN⟩
  have hS1 := hS.trans (hbN.mono hS.size)
  try have hr1 := hr1.below hbN
  try have hr2 := hr2.below hbN
  try have hr3 := hr3.below hbN
  try have hr4 := hr4.below hbN
  clear hS
  have hS := hS1
  clear hS1 hbN
  refine ⟨hS, ?_⟩
  refine wpAnyH_take (i := 4) (oi := ⟨some 34, _, _, _, _, _⟩) (v := ?_) rfl (by kernel_rfl) (by kernel_rfl) (by kernel_rfl) (fun _ _ _ h => h) (Or.inl ⟨by rfl, ?_⟩) hS ?_
  rotate_left 1
  focus ((intro W' hS'; go_simp) <;> with_reducible rfl)
  try simp only [Act.put, List.setIfInBounds_toArray, List.set_cons_zero, List.set_cons_succ]
  refine wpAnyH_take (i := 5) (oi := ⟨some 35, _, _, _, _, _⟩) (v := ?_) rfl (by kernel_rfl) (by kernel_rfl) (by kernel_rfl) (fun _ _ _ h => h) (Or.inl ⟨by rfl, ?_⟩) hS ?_
  rotate_left 1
  focus ((intro W' hS'; go_simp) <;> with_reducible rfl)
  try simp only [Act.put, List.setIfInBounds_toArray, List.set_cons_zero, List.set_cons_succ]
  refine wpAnyH_take (i := 6) (oi := ⟨some 36, _, _, _, _, _⟩) (v := ?_) rfl (by kernel_rfl) (by kernel_rfl) (by kernel_rfl) (fun _ _ _ h => h) (Or.inl ⟨by rfl, ?_⟩) hS ?_
  rotate_left 1
  focus ((intro W' hS'; go_simp) <;> with_reducible rfl)
  try simp only [Act.put, List.setIfInBounds_toArray, List.set_cons_zero, List.set_cons_succ]
  refine wpAnyH_take (i := 7) (oi := ⟨some 37, _, _, _, _, _⟩) (v := ?_) rfl (by kernel_rfl) (by kernel_rfl) (by kernel_rfl) (fun _ _ _ h => h) (Or.inl ⟨by rfl, ?_⟩) hS ?_
  rotate_left 1
  focus ((intro W' hS'; go_simp) <;> with_reducible rfl)
  try simp only [Act.put, List.setIfInBounds_toArray, List.set_cons_zero, List.set_cons_succ]
  refine wpAnyH_take (i := 8) (oi := ⟨some 38, _, _, _, _, _⟩) (v := ?_) rfl (by kernel_rfl) (by kernel_rfl) (by kernel_rfl) (fun _ _ _ h => h) (Or.inl ⟨by rfl, ?_⟩) hS ?_
  rotate_left 1
  focus ((intro W' hS'; go_simp) <;> with_reducible rfl)
  try simp only [Act.put, List.setIfInBounds_toArray, List.set_cons_zero, List.set_cons_succ]
  refine wpAnyH_take (i := 9) (oi := ⟨some 39, _, _, _, _, _⟩) (v := ?_) rfl (by kernel_rfl) (by kernel_rfl) (by kernel_rfl) (fun _ _ _ h => h) (Or.inl ⟨by rfl, ?_⟩) hS ?_
  rotate_left 1
  focus ((intro W' hS'; go_simp) <;> with_reducible rfl)
  try simp only [Act.put, List.setIfInBounds_toArray, List.set_cons_zero, List.set_cons_succ]
  refine wpAnyH_take (i := 10) (oi := ⟨some 40, _, _, _, _, _⟩) (v := ?_) rfl (by kernel_rfl) (by kernel_rfl) (by kernel_rfl) (fun _ _ _ h => h) (Or.inl ⟨by rfl, ?_⟩) hS ?_
  rotate_left 1
  focus ((intro W' hS'; go_simp) <;> with_reducible rfl)
  try simp only [Act.put, List.setIfInBounds_toArray, List.set_cons_zero, List.set_cons_succ]
  refine wpAnyH_take (i := 11) (oi := ⟨some 41, _, _, _, _, _⟩) (v := ?_) rfl (by kernel_rfl) (by kernel_rfl) (by kernel_rfl) (fun _ _ _ h => h) (Or.inl ⟨by rfl, ?_⟩) hS ?_
  rotate_left 1
  focus ((intro W' hS'; have q1 := keep_cell hS' c0 (by show w.heap.size < _; omega); go_simp) <;> with_reducible rfl)
  try simp only [Act.put, List.setIfInBounds_toArray, List.set_cons_zero, List.set_cons_succ]
  refine wpAnyH_take (i := 12) (oi := ⟨some 42, _, _, _, _, _⟩) (v := ?_) rfl (by kernel_rfl) (by kernel_rfl) (by kernel_rfl) (fun _ _ _ h => h) (Or.inl ⟨by rfl, ?_⟩) hS ?_
  rotate_left 1
  focus ((intro W' hS'; go_simp) <;> with_reducible rfl)
  try simp only [Act.put, List.setIfInBounds_toArray, List.set_cons_zero, List.set_cons_succ]
  refine wpAnyH_take (i := 13) (oi := ⟨some 43, _, _, _, _, _⟩) (v := ?_) rfl (by kernel_rfl) (by kernel_rfl) (by kernel_rfl) (fun _ _ _ h => h) (Or.inl ⟨by rfl, ?_⟩) hS ?_
  rotate_left 1
  focus ((intro W' hS'; go_simp) <;> with_reducible rfl)
  try simp only [Act.put, List.setIfInBounds_toArray, List.set_cons_zero, List.set_cons_succ]
  refine wpAnyH_take (i := 16) (oi := ⟨some 46, _, _, _, _, _⟩) (v := ?_) rfl (by kernel_rfl) (by kernel_rfl) (by kernel_rfl) (fun _ _ _ h => h) (Or.inl ⟨by rfl, ?_⟩) hS ?_
  rotate_left 1
  focus ((intro W' hS'; go_simp) <;> with_reducible rfl)
  try simp only [Act.put, List.setIfInBounds_toArray, List.set_cons_zero, List.set_cons_succ]
  refine wpAnyH_take (i := 17) (oi := ⟨some 47, _, _, _, _, _⟩) (v := ?_) rfl (by kernel_rfl) (by kernel_rfl) (by kernel_rfl) (fun _ _ _ h => h) (Or.inl ⟨by rfl, ?_⟩) hS ?_
  rotate_left 1
  focus ((intro W' hS'; have q1 := keep_cell hS' c0 (by show w.heap.size < _; omega); go_simp) <;> with_reducible rfl)
  try simp only [Act.put, List.setIfInBounds_toArray, List.set_cons_zero, List.set_cons_succ]
  refine wpAnyH_take (i := 18) (oi := ⟨some 48, _, _, _, _, _⟩) (v := ?_) rfl (by kernel_rfl) (by kernel_rfl) (by kernel_rfl) (fun _ _ _ h => h) (Or.inl ⟨by rfl, ?_⟩) hS ?_
  rotate_left 1
  focus ((intro W' hS'; go_simp) <;> with_reducible rfl)
  try simp only [Act.put, List.setIfInBounds_toArray, List.set_cons_zero, List.set_cons_succ]
  refine wpAnyH_take (i := 19) (oi := ⟨some 49, _, _, _, _, _⟩) (v := ?_) rfl (by kernel_rfl) (by kernel_rfl) (by kernel_rfl) (fun _ _ _ h => h) (Or.inl ⟨by rfl, ?_⟩) hS ?_
  rotate_left 1
  focus ((intro W' hS'; go_simp) <;> with_reducible rfl)
  try simp only [Act.put, List.setIfInBounds_toArray, List.set_cons_zero, List.set_cons_succ]
  refine anyH_one (i := 14) (by kernel_rfl) ⟨some 44, _, _, _, _, _⟩ rfl (by rfl) ?_
  go_simp
  with_reducible refine Calls.mono (HAB.out _ (hp0.out.below (fb.trans (hS.mono (by omega))))) ?_
  rintro e wN ⟨dv3, rfl, hr3, hbN⟩
  have hr3' := hr3
  obtain ⟨A3, n3, rfl, _⟩ := hr3'
  have hS1 := hS.trans (hbN.mono hS.size)
  clear hS
  have hS := hS1
  clear hS1 hbN
  refine ⟨hS, ?_⟩
  refine anyH_one (i := 15) (by kernel_rfl) ⟨some 45, _, _, _, _, _⟩ rfl (by rfl) ?_
  go_simp
  with_reducible refine Calls.mono (HO2.out _ _ hr3) ?_
  rintro e wN ⟨rfl, hbN⟩
  have hS1 := hS.trans (hbN.mono hS.size)
  try have hr1 := hr1.below hbN
  try have hr2 := hr2.below hbN
  try have hr3 := hr3.below hbN
  try have hr4 := hr4.below hbN
  clear hS
  have hS := hS1
  clear hS1 hbN
  refine ⟨hS, ?_⟩
  refine anyH_one (i := 20) (by kernel_rfl) ⟨some 50, _, _, _, _, _⟩ rfl (by rfl) ?_
  go_simp
  with_reducible refine Calls.mono (HRAB.out _ (hp0.out.below (fb.trans (hS.mono (by omega))))) ?_
  rintro e wN ⟨dv4, rfl, hr4, hbN⟩
  have hr4' := hr4
  obtain ⟨A4, n4, rfl, _⟩ := hr4'
  have hS1 := hS.trans (hbN.mono hS.size)
  have hr3 := hr3.below hbN
  clear hS
  have hS := hS1
  clear hS1 hbN
  refine ⟨hS, ?_⟩
  refine anyH_one (i := 21) (by kernel_rfl) ⟨some 51, _, _, _, _, _⟩ rfl (by rfl) ?_
  go_simp
  with_reducible refine Calls.mono (HRS2.out _ _ _ hr3 hr4) ?_
  rintro e wN ⟨rfl, hbN⟩
  have hS1 := hS.trans (hbN.mono hS.size)
  try have hr1 := hr1.below hbN
  try have hr2 := hr2.below hbN
  try have hr3 := hr3.below hbN
  try have hr4 := hr4.below hbN
  clear hS
  have hS := hS1
  clear hS1 hbN
  refine ⟨hS, ?_⟩
  refine wpAnyH_take (i := 22) (oi := ⟨some 52, _, _, _, _, _⟩) (v := ?_) rfl (by kernel_rfl) (by kernel_rfl) (by kernel_rfl) (fun _ _ _ h => h) (Or.inl ⟨by rfl, ?_⟩) hS ?_
  rotate_left 1
  focus ((intro W' hS'; go_simp) <;> with_reducible rfl)
  try simp only [Act.put, List.setIfInBounds_toArray, List.set_cons_zero, List.set_cons_succ]
  refine wpAnyH_take (i := 23) (oi := ⟨some 53, _, _, _, _, _⟩) (v := ?_) rfl (by kernel_rfl) (by kernel_rfl) (by kernel_rfl) (fun _ _ _ h => h) (Or.inl ⟨by rfl, ?_⟩) hS ?_
  rotate_left 1
  focus ((intro W' hS'; go_simp) <;> with_reducible rfl)
  try simp only [Act.put, List.setIfInBounds_toArray, List.set_cons_zero, List.set_cons_succ]
  refine anyH_one (i := 24) (by kernel_rfl) ⟨some 54, _, _, _, _, _⟩ rfl (by rfl) ?_
  go_simp
  refine Calls.mono (alive_any _) ?_
  rintro e wN ⟨rfl, hbN⟩
  have hS1 := hS.trans (hbN.mono hS.size)
  clear hS
  have hS := hS1
  refine ⟨hS, ?_⟩
  refine wpAnyH_take (i := 25) (oi := ⟨some 55, _, _, _, _, _⟩) (v := ?_) rfl (by kernel_rfl) (by kernel_rfl) (by kernel_rfl) (fun _ _ _ h => h) (Or.inl ⟨by rfl, ?_⟩) hS ?_
  rotate_left 1
  focus ((intro W' hS'; go_simp) <;> with_reducible rfl)
  try simp only [Act.put, List.setIfInBounds_toArray, List.set_cons_zero, List.set_cons_succ]
  refine wpAnyH_take (i := 26) (oi := ⟨some 6, _, _, _, _, _⟩) (v := ?_) rfl (by kernel_rfl) (by kernel_rfl) (by kernel_rfl) (fun _ _ _ h => h) (Or.inl ⟨by rfl, ?_⟩) hS ?_
  rotate_left 1
  focus ((intro W' hS'; go_simp) <;> with_reducible rfl)
  try simp only [Act.put, List.setIfInBounds_toArray, List.set_cons_zero, List.set_cons_succ]
  refine wpAnyH_done (by kernel_rfl) ?_ _
  go_wp2_with fail
  go_ret
  exact ⟨rfl, fb.trans (hS.mono (by omega))⟩
end Go.Proofs.Ytlgkgdgmhcckfaa
