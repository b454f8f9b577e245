/- Walk: the reference's Parse. -/
import Derived.Test.YtlgkgdgmhcckfaaIcmpO
import Derived.Deep.DeepCutAuto
namespace Go.Proofs.Ytlgkgdgmhcckfaa
set_option linter.unusedVariables false
set_option linter.unusedSimpArgs false
open Go.RowKit

theorem match_iff (b0 b1 : Nat) (six : Bool) (j : Int) (h1 : 1 ≤ j) (h5 : j ≤ 5) : ((typK j six).toNat = b0 ∧ (six = true ∨ b0 ≠ 3 ∨ (j = 4 ↔ b1 = 4))) ↔ kindS b0 b1 six = j := by
  have hj : j = 1 ∨ j = 2 ∨ j = 3 ∨ j = 4 ∨ j = 5 := by omega
  cases six
  · by_cases a8 : b0 = 8
    · subst a8; rcases hj with rfl | rfl | rfl | rfl | rfl <;> simp [typK, kindS]
    by_cases a0 : b0 = 0
    · subst a0; rcases hj with rfl | rfl | rfl | rfl | rfl <;> simp [typK, kindS]
    by_cases a11 : b0 = 11
    · subst a11; rcases hj with rfl | rfl | rfl | rfl | rfl <;> simp [typK, kindS]
    by_cases a3 : b0 = 3
    · subst a3
      by_cases c4 : b1 = 4
      · subst c4; rcases hj with rfl | rfl | rfl | rfl | rfl <;> simp [typK, kindS]
      · rcases hj with rfl | rfl | rfl | rfl | rfl <;> simp [typK, kindS, c4]
    · have e8 := fun h : 8 = b0 => a8 h.symm
      have e0 := fun h : 0 = b0 => a0 h.symm
      have e11 := fun h : 11 = b0 => a11 h.symm
      have e3 := fun h : 3 = b0 => a3 h.symm
      rcases hj with rfl | rfl | rfl | rfl | rfl <;> simp [typK, kindS, a8, a0, a11, a3] <;> omega
  · by_cases a1 : b0 = 128
    · subst a1; rcases hj with rfl | rfl | rfl | rfl | rfl <;> simp [typK, kindS]
    by_cases a2 : b0 = 129
    · subst a2; rcases hj with rfl | rfl | rfl | rfl | rfl <;> simp [typK, kindS]
    by_cases a3 : b0 = 1
    · subst a3; rcases hj with rfl | rfl | rfl | rfl | rfl <;> simp [typK, kindS]
    by_cases a4 : b0 = 2
    · subst a4; rcases hj with rfl | rfl | rfl | rfl | rfl <;> simp [typK, kindS]
    by_cases a5 : b0 = 3
    · subst a5; rcases hj with rfl | rfl | rfl | rfl | rfl <;> simp [typK, kindS]
    · rcases hj with rfl | rfl | rfl | rfl | rfl <;> simp [typK, kindS, a1, a2, a3, a4, a5] <;> omega
theorem kept_read (b : List UInt8) (six : Bool) (k : Int) (hk : k = kindS (b.getD 0 0).toNat (b.getD 1 0).toNat six) (h1 : 1 ≤ k) (h5 : k ≤ 5) :
    keptS ⟨k, ((b.getD 1 0).toNat : Int), (be ((b.drop 4).take 2) : Int), (be ((b.drop 6).take 2) : Int), (be ((b.drop 4).take 4) : Int), b.drop 8⟩ = readS b six := by
  unfold keptS readS
  simp only [← hk]
  have hj : k = 1 ∨ k = 2 ∨ k = 3 ∨ k = 4 ∨ k = 5 := by omega
  rcases hj with h | h | h | h | h <;> simp [h]
set_option maxHeartbeats 4000000 in
theorem rparse_any (v : Value) (b : List UInt8) (s d : Adr) (w : World) (hx : RB w v b) (hl : b.length ≤ 3008) :
    Calls Try.prog 18 #[v, .agg s.cells, .agg d.cells] w fun e w' => ∃ dv, e = .returned (.tuple #[(parseS b s d).v dv, .int .i64 (perrS b s d)]) ∧ RB w' dv (parseS b s d).data ∧ Below w.heap.size w w' := by
  have hx0 := hid hx
  obtain ⟨A, c, rfl, hrow⟩ := hx
  have hcap := hrow.cap
  have htop := hrow.top
  have k0 : s.cells[0]? = some (.bool s.six) := rfl
  by_cases h8 : b.length < 8
  · have hpe : perrS b s d = 4 := by unfold perrS; rw [if_pos h8]
    have hps : parseS b s d = noMsg := by unfold parseS; rw [if_neg (by rw [hpe]; omega)]
    rw [hpe, hps]
    clear hpe hps hrow
    have hdec : decide ((b.length : Int) < 8) = true := by simp; omega
    go_enter Try.func18, Try.ntmps18
    go_wp2_with fail
    exact rmsg_ret2 (m := noMsg) (dv := .slice none 0 0) rfl rfl rfl (three_facts rfl).2.2.1 ⟨.slice none 0 0, rfl, RB.nil _, (three_facts rfl).2.2.2.1⟩
  have HSU := hid fun W (h : RB W (.slice A b.length c) b) => rsumm_any _ b s d W h (by omega)
  by_cases hsum : sumS b s d ≠ 65535
  · have hpe : perrS b s d = 8 := by unfold perrS; rw [if_neg h8, if_pos hsum]
    have hps : parseS b s d = noMsg := by unfold parseS; rw [if_neg (by rw [hpe]; omega)]
    rw [hpe, hps]
    clear hpe hps hrow
    have hF : (sumS b s d != 65535) = true := by simp [hsum]
    generalize sumS b s d = F at hF HSU
    have hdec : decide ((b.length : Int) < 8) = false := by simp; omega
    clear hsum
    go_enter Try.func18, Try.ntmps18
    go_wp2_with (first
      | refine wpList_load_row rfl 29 (.tmp 4) rfl w.heap.size rfl 29 s.cells (0, 0) _ (three_facts rfl).1 Try.underlying29 rfl (info_addr s) ?_
      | refine wpList_load_row rfl 29 (.tmp 5) rfl (w.heap.size + 1) rfl 29 d.cells (0, 0) _ (three_facts rfl).2.1 Try.underlying29 rfl (info_addr d) ?_)
    generalize hW : ((w.alloc _).alloc _).alloc _ = W
    obtain ⟨f0, f1, f2, fb, fs⟩ := three_facts hW
    clear hW
    with_reducible refine Calls.mono (HSU.out W (hx0.out.below fb)) ?_
    rintro e w1 ⟨rfl, hb1⟩
    have g2 := (hb1.block _ (by omega)).trans f2
    have fb1 := below_after fb hb1 (Nat.le_refl _)
    go_wp2_with (refine wpList_store_row rfl 26 (.tmp 6) (.tmp 19) rfl (w.heap.size + 1 + 1) _ rfl rfl _ _ g2 infoR rfl (by simp [Value.oneCell']) ?_)
    exact rmsg_ret2 (m := noMsg) (dv := .slice none 0 0) rfl rfl rfl (rowSetRow g2 _) ⟨.slice none 0 0, rfl, RB.nil _, belowSetRow fb1 (by omega) _⟩
  have hsm : sumS b s d = 65535 := by omega
  rw [hsm] at HSU
  have hpe : perrS b s d = if mayS (readS b s.six) s.six then 0 else 11 := by unfold perrS; rw [if_neg h8, if_neg hsum]
  have hps : parseS b s d = if mayS (readS b s.six) s.six then readS b s.six else noMsg := by
    unfold parseS
    rw [hpe]
    cases mayS (readS b s.six) s.six <;> simp
  rw [hpe, hps]
  clear hpe hps hsum hsm
  have n8 : (8 : Int) ≤ b.length := by omega
  obtain ⟨ad, rfl⟩ := hrow.addr (by rw [hrow.len]; omega)
  have r0' := hrow.get 0 _ (by8_get b 0 (by omega))
  rw [add_zero'] at r0'
  have r1' := hrow.lit 1 _ (by omega) (by8_get b 1 (by omega))
  obtain ⟨M, hM⟩ : ∃ M, M = readS b s.six := ⟨_, rfl⟩
  have HM := hid hM
  rw [← hM]
  have hmay := fun (dv : Value) W (h : RB W dv M.data) => rmay_any M dv s.six W h
  have hm0 : M.kind = 0 → mayS M s.six = false := by
    intro h; unfold mayS; rw [h]; simp
  generalize mayS M s.six = mb at hmay hm0 ⊢
  have HMAY := hid hmay
  have HM0 := hid hm0
  clear hmay hM hm0
  have hdec : decide ((b.length : Int) < 8) = false := by simp; omega
  have hbd : ∃ (A8 : Option Addr) (bd : List UInt8), bd = b.drop 8 ∧ RB w (.slice A8 bd.length (c - 8)) bd ∧ ∀ W : World, (Instr.slice 24 (.slice (some ad) b.length c) (some (.int .i64 8)) none none).run Try.prog W = .ok (.slice A8 bd.length (c - 8)) W := by
    refine ⟨if c = 8 then some ad else (some ad).map (·.add (8 * 1)), b.drop 8, rfl, ?_, fun W => ?_⟩
    · have h := RB.part (w := w) hx0.out 8 (b.length - 8) (by omega)
      rw [List.take_of_length_le (by rw [List.length_drop]; omega)] at h
      rw [List.length_drop]; exact h
    · rw [List.length_drop]
      exact slice_fromZ (P := Try.prog) 24 5 .i64 Try.underlying24 (info_parts info_u8).choose_spec.1 1 (info_parts info_u8).choose_spec.2.2.1 (some ad) b.length c 8 (by omega) n8 W
  obtain ⟨A8, bd, hbd, hrb8, sl8⟩ := hbd
  have HBD := hid hbd
  have HRB8 := hid hrb8
  have hbdl : bd.length ≤ 3000 := by rw [hbd, List.length_drop]; omega
  clear hbd hrb8
  have part2 : ∀ l (lo hi : Int), l + 2 ≤ b.length → lo = (l : Int) → hi = ((l + 2 : Nat) : Int) → ∃ (Y : Option Addr) (x : List UInt8), x = (b.drop l).take 2 ∧ RB w (.slice Y 2 (c - l)) x ∧ ∀ W : World, (Instr.slice 24 (.slice (some ad) b.length c) (some (.int .i64 lo)) (some (.int .i64 hi)) none).run Try.prog W = .ok (.slice Y 2 (c - l)) W := by
    rintro l lo hi hl2 rfl rfl
    refine ⟨_, _, rfl, RB.part hx0.out l 2 hl2, fun W => ?_⟩
    have h := slice_lh (P := Try.prog) 24 5 .i64 .i64 Try.underlying24 (info_parts info_u8).choose_spec.1 1 (info_parts info_u8).choose_spec.2.2.1 (some ad) b.length c (l : Int) ((l + 2 : Nat) : Int) (by omega) (by omega) (by omega) W
    rw [h]
    have e1 : ((l : Int)).toNat = l := by omega
    have e2 : (((l + 2 : Nat) : Int)).toNat - ((l : Int)).toNat = 2 := by omega
    rw [e2, e1]
  have part4 : ∃ (Y : Option Addr) (x : List UInt8), x = (b.drop 4).take 4 ∧ RB w (.slice Y 4 (c - 4)) x ∧ ∀ W : World, (Instr.slice 24 (.slice (some ad) b.length c) (some (.int .i64 4)) (some (.int .i64 8)) none).run Try.prog W = .ok (.slice Y 4 (c - 4)) W :=
    ⟨_, _, rfl, RB.part hx0.out 4 4 (by omega), fun W => slice_lh (P := Try.prog) 24 5 .i64 .i64 Try.underlying24 (info_parts info_u8).choose_spec.1 1 (info_parts info_u8).choose_spec.2.2.1 (some ad) b.length c 4 8 (by omega) (by omega) (by omega) W⟩
  obtain ⟨Y4, x4, hx4, hrx4, slx4⟩ := part2 4 4 6 (by omega) rfl rfl
  obtain ⟨Y6, x6, hx6, hrx6, slx6⟩ := part2 6 6 8 (by omega) rfl rfl
  obtain ⟨Y8, x8, hx8, hrx8, slx8⟩ := part4
  have hg4 : getS x4 = be ((b.drop 4).take 2) := by rw [hx4]; exact getS_short _ (by rw [List.length_take]; omega)
  have hg6 : getS x6 = be ((b.drop 6).take 2) := by rw [hx6]; exact getS_short _ (by rw [List.length_take]; omega)
  have hg8 : getS x8 = be ((b.drop 4).take 4) := by rw [hx8]; exact getS_short _ (by rw [List.length_take]; omega)
  have hx4l : getS x4 ≤ 65535 := by rw [hg4]; exact be2_le b 4
  have hx6l : getS x6 ≤ 65535 := by rw [hg6]; exact be2_le b 6
  have hx8l : getS x8 ≤ 4294967295 := by rw [hg8]; exact be4_le b 4
  have HGET4 := hid fun W (h : RB W (.slice Y4 2 (c - 4)) x4) => rget_any _ x4 W h
  have HGET6 := hid fun W (h : RB W (.slice Y6 2 (c - 6)) x6) => rget_any _ x6 W h
  have HGET8 := hid fun W (h : RB W (.slice Y8 4 (c - 4)) x8) => rget_any _ x8 W h
  have HRX4 := hid hrx4
  have HRX6 := hid hrx6
  have HRX8 := hid hrx8
  have hkr : ∀ k : Int, k = kindS (b.getD 0 0).toNat (b.getD 1 0).toNat s.six → 1 ≤ k → k ≤ 5 → keptS ⟨k, ((b.getD 1 0).toNat : Int), (getS x4 : Int), (getS x6 : Int), (getS x8 : Int), bd⟩ = M := by
    intro k h1 h2 h3
    rw [hg4, hg6, hg8, HBD.out, HM.out]
    exact kept_read b s.six k h1 h2 h3
  have hMk : M.kind = kindS (b.getD 0 0).toNat (b.getD 1 0).toNat s.six := by rw [HM.out]; rfl
  have hMd : M.data = bd := by rw [HM.out, HBD.out]; rfl
  have hmi := fun j h1 h5 => match_iff (b.getD 0 0).toNat (b.getD 1 0).toNat s.six j h1 h5
  have hKr := kindS_range (b.getD 0 0).toNat (b.getD 1 0).toNat s.six
  generalize kindS (b.getD 0 0).toNat (b.getD 1 0).toNat s.six = K at hkr hMk hmi hKr
  have HKR := hid hkr
  have HMK := hid hMk
  have HMD := hid hMd
  have HMI := hid hmi
  clear hx4 hx6 hx8 hg4 hg6 hg8 hrx4 hrx6 hrx8 part2 hkr hMk hMd hmi
  generalize getS x4 = X4 at HGET4 hx4l HKR
  generalize getS x6 = X6 at HGET6 hx6l HKR
  generalize getS x8 = X8 at HGET8 hx8l HKR
  have wx4 : IntKind.u16.wrap (X4 : Int) = X4 := by rw [IntKind.wrap_u16]; omega
  have wx6 : IntKind.u16.wrap (X6 : Int) = X6 := by rw [IntKind.wrap_u16]; omega
  have wx8 : IntKind.u32.wrap (X8 : Int) = X8 := by rw [IntKind.wrap_u32]; omega
  generalize b.getD 0 0 = b0 at r0' HMI
  generalize b.getD 1 0 = b1 at r1' HMI HKR
  clear hrow
  go_enter Try.func18, Try.ntmps18
  go_wp2_with (first
    | refine wpList_load_row rfl 29 (.tmp 4) rfl w.heap.size rfl 29 s.cells (0, 0) _ (three_facts rfl).1 Try.underlying29 rfl (info_addr s) ?_
    | refine wpList_load_row rfl 29 (.tmp 5) rfl (w.heap.size + 1) rfl 29 d.cells (0, 0) _ (three_facts rfl).2.1 Try.underlying29 rfl (info_addr d) ?_)
  generalize hW : ((w.alloc _).alloc _).alloc _ = W
  obtain ⟨f0, f1, f2, fb, fs⟩ := three_facts hW
  clear hW
  with_reducible refine Calls.mono (HSU.out W (hx0.out.below fb)) ?_
  rintro e W2 ⟨rfl, hb1⟩
  have g0 := (hb1.block _ (by omega)).trans f0
  have g2 := (hb1.block _ (by omega)).trans f2
  have fb1 := below_after fb hb1 (Nat.le_refl _)
  have fs1 : w.heap.size + 3 ≤ W2.heap.size := Nat.le_trans (Nat.le_of_eq fs.symm) hb1.size
  clear f0 f1 f2 fb fs hb1
  have r0 := keep_cell fb1 r0' (World.block_lt_of_cell? _ _ r0')
  have r1 := keep_cell fb1 r1' (World.block_lt_of_cell? _ _ r1')
  have q0 := (cellRow g0 0).trans k0
  clear r0' r1'
  have n0 : 0 < b.length := by omega
  have n1 : (1 : Int) < b.length := by omega
  go_upto_region 5 with fail
  go_cut [8] (fun s8 wx => ∃ (g : Nat) (A3 : Option Addr) (n3 : Nat), s8 = .pointer (some ⟨g, 0, none⟩) ∧ wx.heap[g]? = some (.cells (Msg.cells ⟨0, (b1.toNat : Int), (X4 : Int), (X6 : Int), (X8 : Int), bd⟩ (.slice A3 bd.length n3)) 26 (0, 0)) ∧ RB wx (.slice A3 bd.length n3) bd ∧ Below W2.heap.size W2 wx ∧ W2.heap.size ≤ g ∧ (∀ a, A3 = some a → 0 < bd.length → W2.heap.size ≤ a.block) ∧ ∀ a, A3 = some a → 0 < bd.length → a.block ≠ g)
  case first =>
    refine wp_region_hand (fun W' => Below W2.heap.size W2 W') (by kernel_rfl) (below_drewN (Below.refl _ _) 1) ?_
    intro hS
    generalize ({ W2 with drawn := W2.drawn + 1 } : World) = w3 at hS ⊢
    have HW3 := hid hS.size
    refine wpAnyH_take (i := 0) (oi := ⟨some 20, _, _, _, _, _⟩) (v := ?_) rfl (by kernel_rfl) (by kernel_rfl) (by kernel_rfl) (fun _ _ _ h => h) (Or.inl ⟨by rfl, ?_⟩) hS ?_
    rotate_left 1
    focus ((intro W' hS'; go_simp) <;> with_reducible rfl)
    try simp only [Act.put, List.setIfInBounds_toArray, List.set_cons_zero, List.set_cons_succ]
    refine wpAnyH_take (i := 1) (oi := ⟨some 21, _, _, _, _, _⟩) (v := ?_) rfl (by kernel_rfl) (by kernel_rfl) (by kernel_rfl) (fun _ _ _ h => h) (Or.inl ⟨by rfl, ?_⟩) hS ?_
    rotate_left 1
    focus ((intro W' hS'; go_simp) <;> with_reducible rfl)
    try simp only [Act.put, List.setIfInBounds_toArray, List.set_cons_zero, List.set_cons_succ]
    refine wpAnyH_take (i := 2) (oi := ⟨some 22, _, _, _, _, _⟩) (v := ?_) rfl (by kernel_rfl) (by kernel_rfl) (by kernel_rfl) (fun _ _ _ h => h) (Or.inl ⟨by rfl, ?_⟩) hS ?_
    rotate_left 1
    focus ((intro W' hS'; have q1 := keep_cell hS' r1 (World.block_lt_of_cell? _ _ r1); go_simp) <;> with_reducible rfl)
    try simp only [Act.put, List.setIfInBounds_toArray, List.set_cons_zero, List.set_cons_succ]
    refine wpAnyH_take (i := 3) (oi := ⟨some 23, _, _, _, _, _⟩) (v := ?_) rfl (by kernel_rfl) (by kernel_rfl) (by kernel_rfl) (fun _ _ _ h => h) (Or.inl ⟨by rfl, ?_⟩) hS ?_
    rotate_left 1
    focus ((intro W' hS'; go_simp) <;> with_reducible rfl)
    try simp only [Act.put, List.setIfInBounds_toArray, List.set_cons_zero, List.set_cons_succ]
    refine wpAnyH_take (i := 4) (oi := ⟨some 24, _, _, _, _, _⟩) (v := ?_) rfl (by kernel_rfl) (by kernel_rfl) (by kernel_rfl) (fun _ _ _ h => h) (Or.inl ⟨by rfl, ?_⟩) hS ?_
    rotate_left 1
    focus ((intro W' hS'; go_simp) <;> with_reducible rfl)
    try simp only [Act.put, List.setIfInBounds_toArray, List.set_cons_zero, List.set_cons_succ]
    refine wpAnyH_take (i := 7) (oi := ⟨some 27, _, _, _, _, _⟩) (v := ?_) rfl (by kernel_rfl) (by kernel_rfl) (by kernel_rfl) (fun _ _ _ h => h) (Or.inl ⟨by rfl, ?_⟩) hS ?_
    rotate_left 1
    focus ((intro W' hS'; go_simp) <;> with_reducible rfl)
    try simp only [Act.put, List.setIfInBounds_toArray, List.set_cons_zero, List.set_cons_succ]
    refine wpAnyH_take (i := 8) (oi := ⟨some 28, _, _, _, _, _⟩) (v := ?_) rfl (by kernel_rfl) (by kernel_rfl) (by kernel_rfl) (fun _ _ _ h => h) (Or.inl ⟨by rfl, ?_⟩) hS ?_
    rotate_left 1
    focus ((intro W' hS'; go_simp) <;> with_reducible rfl)
    try simp only [Act.put, List.setIfInBounds_toArray, List.set_cons_zero, List.set_cons_succ]
    refine wpAnyH_take (i := 11) (oi := ⟨some 31, _, _, _, _, _⟩) (v := ?_) rfl (by kernel_rfl) (by kernel_rfl) (by kernel_rfl) (fun _ _ _ h => h) (Or.inl ⟨by rfl, ?_⟩) hS ?_
    rotate_left 1
    focus ((intro W' hS'; go_simp) <;> with_reducible rfl)
    try simp only [Act.put, List.setIfInBounds_toArray, List.set_cons_zero, List.set_cons_succ]
    refine wpAnyH_take (i := 12) (oi := ⟨some 32, _, _, _, _, _⟩) (v := ?_) rfl (by kernel_rfl) (by kernel_rfl) (by kernel_rfl) (fun _ _ _ h => h) (Or.inl ⟨by rfl, ?_⟩) hS ?_
    rotate_left 1
    focus ((intro W' hS'; go_simp) <;> with_reducible rfl)
    try simp only [Act.put, List.setIfInBounds_toArray, List.set_cons_zero, List.set_cons_succ]
    refine wpAnyH_take (i := 15) (oi := ⟨some 35, _, _, _, _, _⟩) (v := ?_) rfl (by kernel_rfl) (by kernel_rfl) (by kernel_rfl) (fun _ _ _ h => h) (Or.inl ⟨by rfl, ?_⟩) hS ?_
    rotate_left 1
    focus ((intro W' hS'; go_simp) <;> with_reducible rfl)
    try simp only [Act.put, List.setIfInBounds_toArray, List.set_cons_zero, List.set_cons_succ]
    refine wpAnyH_take (i := 16) (oi := ⟨some 36, _, _, _, _, _⟩) (v := ?_) rfl (by kernel_rfl) (by kernel_rfl) (by kernel_rfl) (fun _ _ _ h => h) (Or.inl ⟨by rfl, ?_⟩) hS ?_
    rotate_left 1
    focus ((intro W' hS'; go_simp) <;> with_reducible rfl)
    try simp only [Act.put, List.setIfInBounds_toArray, List.set_cons_zero, List.set_cons_succ]
    refine anyH_two (i := 5) (j := 19) (by kernel_rfl) (op_in ⟨some 25, _, _, _, _, _⟩ rfl (by rfl) ?_) (op_in ⟨some 8, _, _, _, _, _⟩ rfl (by rfl) ?_)
    · go_simp
      with_reducible refine Calls.mono (HGET4.out _ (HRX4.out.below (fb1.trans (hS.mono (by omega))))) ?_
      rintro e w' ⟨rfl, rfl⟩
      refine ⟨hS, ?_⟩
      refine wpAnyH_take (i := 6) (oi := ⟨some 26, _, _, _, _, _⟩) (v := ?_) rfl (by kernel_rfl) (by kernel_rfl) (by kernel_rfl) (fun _ _ _ h => h) (Or.inl ⟨by rfl, ?_⟩) hS ?_
      rotate_left 1
      focus ((intro W' hS'; go_simp) <;> with_reducible rfl)
      try simp only [Act.put, List.setIfInBounds_toArray, List.set_cons_zero, List.set_cons_succ]
      refine anyH_two (i := 9) (j := 19) (by kernel_rfl) (op_in ⟨some 29, _, _, _, _, _⟩ rfl (by rfl) ?_) (op_in ⟨some 8, _, _, _, _, _⟩ rfl (by rfl) ?_)
      · go_simp
        with_reducible refine Calls.mono (HGET6.out _ (HRX6.out.below (fb1.trans (hS.mono (by omega))))) ?_
        rintro e w' ⟨rfl, rfl⟩
        refine ⟨hS, ?_⟩
        refine wpAnyH_take (i := 10) (oi := ⟨some 30, _, _, _, _, _⟩) (v := ?_) rfl (by kernel_rfl) (by kernel_rfl) (by kernel_rfl) (fun _ _ _ h => h) (Or.inl ⟨by rfl, ?_⟩) hS ?_
        rotate_left 1
        focus ((intro W' hS'; go_simp) <;> with_reducible rfl)
        try simp only [Act.put, List.setIfInBounds_toArray, List.set_cons_zero, List.set_cons_succ]
        refine anyH_two (i := 13) (j := 19) (by kernel_rfl) (op_in ⟨some 33, _, _, _, _, _⟩ rfl (by rfl) ?_) (op_in ⟨some 8, _, _, _, _, _⟩ rfl (by rfl) ?_)
        · go_simp
          with_reducible refine Calls.mono (HGET8.out _ (HRX8.out.below (fb1.trans (hS.mono (by omega))))) ?_
          rintro e w' ⟨rfl, rfl⟩
          refine ⟨hS, ?_⟩
          refine wpAnyH_take (i := 14) (oi := ⟨some 34, _, _, _, _, _⟩) (v := ?_) rfl (by kernel_rfl) (by kernel_rfl) (by kernel_rfl) (fun _ _ _ h => h) (Or.inl ⟨by rfl, ?_⟩) hS ?_
          rotate_left 1
          focus ((intro W' hS'; go_simp) <;> with_reducible rfl)
          try simp only [Act.put, List.setIfInBounds_toArray, List.set_cons_zero, List.set_cons_succ]
          refine anyH_two (i := 17) (j := 19) (by kernel_rfl) (op_in ⟨some 37, _, _, _, _, _⟩ rfl (by rfl) ?_) (op_in ⟨some 8, _, _, _, _, _⟩ rfl (by rfl) ?_)
          · refine wp_append_u8 (.const (.slice none 0 0)) (.tmp 36) _ [] bd bd rfl rfl rfl rfl rfl (OB.nil _ _) (HRB8.out.below (fb1.trans (hS.mono (by omega)))) (by simp; omega) (Nat.le_refl _) ?_
            intro A3 n3 wC ho3 hb3 _ _
            have hrb3 := ho3.rb
            have hlo := ho3.where
            try have hg := (hb3.block _ (by have := HG.out; omega)).trans hg
            have hS := hS.trans (hb3.mono hS.size)
            refine ⟨hS, ?_⟩
            try simp only [Act.put, List.setIfInBounds_toArray, List.set_cons_zero, List.set_cons_succ]
            refine wpAnyH_take (i := 18) (oi := ⟨some 38, _, _, _, _, _⟩) (v := ?_) rfl (by kernel_rfl) (by kernel_rfl) (by kernel_rfl) (fun _ _ _ h => h) (Or.inl ⟨by rfl, ?_⟩) hS ?_
            rotate_left 1
            focus ((intro W' hS'; go_simp) <;> with_reducible rfl)
            try simp only [Act.put, List.setIfInBounds_toArray, List.set_cons_zero, List.set_cons_succ]
            refine anyH_one (i := 19) (by kernel_rfl) ⟨some 8, _, _, _, _, _⟩ rfl (by rfl) ?_
            go_simp
            generalize hG : World.alloc _ _ = wG
            obtain ⟨hg, hbG, hsG⟩ := one_facts hG
            clear hG
            have hgl := hS.size
            try have hrb3 := hrb3.below hbG
            have hS := hS.trans (hbG.mono hS.size)
            refine ⟨hS, ?_⟩
            have HG := hid hsG
            clear hsG
            refine anyH_one (i := 20) (by kernel_rfl) ⟨none, _, _, _, _, _⟩ rfl (by rfl) ?_
            refine wp_store_row _ _ _ rfl _ _ rfl rfl _ _ hg infoR rfl (by simp [Value.oneCell']) ?_
            refine ⟨belowSetRow hS hgl _, ?_⟩
            refine wpAnyH_done (by kernel_rfl) ?_ _
            go_wp2_with fail
            go_meet
            exact ⟨_, A3, n3, rfl, rowSetRow hg _, hrb3.setRowNe _ (fun a ha hn => by have h1 := hlo a ha hn; have h2 := HG.out; omega), belowSetRow hS hgl _, hgl, fun a ha hn => by have h1 := hlo a ha hn; have h2 := HG.out; have h3 := HW3.out; omega, fun a ha hn => by have h1 := hlo a ha hn; have h2 := HG.out; omega⟩
          · go_simp
            generalize hG : World.alloc _ _ = wG
            obtain ⟨hg, hbG, hsG⟩ := one_facts hG
            clear hG
            have hgl := hS.size
            try have hrb3 := hrb3.below hbG
            have hS := hS.trans (hbG.mono hS.size)
            refine ⟨hS, ?_⟩
            have HG := hid hsG
            clear hsG
            refine anyH_one (i := 17) (by kernel_rfl) ⟨some 37, _, _, _, _, _⟩ rfl (by rfl) ?_
            refine wp_append_u8 (.const (.slice none 0 0)) (.tmp 36) _ [] bd bd rfl rfl rfl rfl rfl (OB.nil _ _) (HRB8.out.below (fb1.trans (hS.mono (by omega)))) (by simp; omega) (Nat.le_refl _) ?_
            intro A3 n3 wC ho3 hb3 _ _
            have hrb3 := ho3.rb
            have hlo := ho3.where
            try have hg := (hb3.block _ (by have := HG.out; omega)).trans hg
            have hS := hS.trans (hb3.mono hS.size)
            refine ⟨hS, ?_⟩
            try simp only [Act.put, List.setIfInBounds_toArray, List.set_cons_zero, List.set_cons_succ]
            refine wpAnyH_take (i := 18) (oi := ⟨some 38, _, _, _, _, _⟩) (v := ?_) rfl (by kernel_rfl) (by kernel_rfl) (by kernel_rfl) (fun _ _ _ h => h) (Or.inl ⟨by rfl, ?_⟩) hS ?_
            rotate_left 1
            focus ((intro W' hS'; go_simp) <;> with_reducible rfl)
            try simp only [Act.put, List.setIfInBounds_toArray, List.set_cons_zero, List.set_cons_succ]
            refine anyH_one (i := 20) (by kernel_rfl) ⟨none, _, _, _, _, _⟩ rfl (by rfl) ?_
            refine wp_store_row _ _ _ rfl _ _ rfl rfl _ _ hg infoR rfl (by simp [Value.oneCell']) ?_
            refine ⟨belowSetRow hS hgl _, ?_⟩
            refine wpAnyH_done (by kernel_rfl) ?_ _
            go_wp2_with fail
            go_meet
            exact ⟨_, A3, n3, rfl, rowSetRow hg _, hrb3.setRowNe _ (fun a ha hn => by have h1 := hlo a ha hn; have h2 := HG.out; omega), belowSetRow hS hgl _, hgl, fun a ha hn => by have h1 := hlo a ha hn; have h2 := HG.out; have h3 := HW3.out; omega, fun a ha hn => by have h1 := hlo a ha hn; have h2 := HG.out; omega⟩
        · go_simp
          generalize hG : World.alloc _ _ = wG
          obtain ⟨hg, hbG, hsG⟩ := one_facts hG
          clear hG
          have hgl := hS.size
          try have hrb3 := hrb3.below hbG
          have hS := hS.trans (hbG.mono hS.size)
          refine ⟨hS, ?_⟩
          have HG := hid hsG
          clear hsG
          refine anyH_one (i := 13) (by kernel_rfl) ⟨some 33, _, _, _, _, _⟩ rfl (by rfl) ?_
          go_simp
          with_reducible refine Calls.mono (HGET8.out _ (HRX8.out.below (fb1.trans (hS.mono (by omega))))) ?_
          rintro e w' ⟨rfl, rfl⟩
          refine ⟨hS, ?_⟩
          refine wpAnyH_take (i := 14) (oi := ⟨some 34, _, _, _, _, _⟩) (v := ?_) rfl (by kernel_rfl) (by kernel_rfl) (by kernel_rfl) (fun _ _ _ h => h) (Or.inl ⟨by rfl, ?_⟩) hS ?_
          rotate_left 1
          focus ((intro W' hS'; go_simp) <;> with_reducible rfl)
          try simp only [Act.put, List.setIfInBounds_toArray, List.set_cons_zero, List.set_cons_succ]
          refine anyH_one (i := 17) (by kernel_rfl) ⟨some 37, _, _, _, _, _⟩ rfl (by rfl) ?_
          refine wp_append_u8 (.const (.slice none 0 0)) (.tmp 36) _ [] bd bd rfl rfl rfl rfl rfl (OB.nil _ _) (HRB8.out.below (fb1.trans (hS.mono (by omega)))) (by simp; omega) (Nat.le_refl _) ?_
          intro A3 n3 wC ho3 hb3 _ _
          have hrb3 := ho3.rb
          have hlo := ho3.where
          try have hg := (hb3.block _ (by have := HG.out; omega)).trans hg
          have hS := hS.trans (hb3.mono hS.size)
          refine ⟨hS, ?_⟩
          try simp only [Act.put, List.setIfInBounds_toArray, List.set_cons_zero, List.set_cons_succ]
          refine wpAnyH_take (i := 18) (oi := ⟨some 38, _, _, _, _, _⟩) (v := ?_) rfl (by kernel_rfl) (by kernel_rfl) (by kernel_rfl) (fun _ _ _ h => h) (Or.inl ⟨by rfl, ?_⟩) hS ?_
          rotate_left 1
          focus ((intro W' hS'; go_simp) <;> with_reducible rfl)
          try simp only [Act.put, List.setIfInBounds_toArray, List.set_cons_zero, List.set_cons_succ]
          refine anyH_one (i := 20) (by kernel_rfl) ⟨none, _, _, _, _, _⟩ rfl (by rfl) ?_
          refine wp_store_row _ _ _ rfl _ _ rfl rfl _ _ hg infoR rfl (by simp [Value.oneCell']) ?_
          refine ⟨belowSetRow hS hgl _, ?_⟩
          refine wpAnyH_done (by kernel_rfl) ?_ _
          go_wp2_with fail
          go_meet
          exact ⟨_, A3, n3, rfl, rowSetRow hg _, hrb3.setRowNe _ (fun a ha hn => by have h1 := hlo a ha hn; have h2 := HG.out; omega), belowSetRow hS hgl _, hgl, fun a ha hn => by have h1 := hlo a ha hn; have h2 := HG.out; have h3 := HW3.out; omega, fun a ha hn => by have h1 := hlo a ha hn; have h2 := HG.out; omega⟩
      · go_simp
        generalize hG : World.alloc _ _ = wG
        obtain ⟨hg, hbG, hsG⟩ := one_facts hG
        clear hG
        have hgl := hS.size
        try have hrb3 := hrb3.below hbG
        have hS := hS.trans (hbG.mono hS.size)
        refine ⟨hS, ?_⟩
        have HG := hid hsG
        clear hsG
        refine anyH_one (i := 9) (by kernel_rfl) ⟨some 29, _, _, _, _, _⟩ rfl (by rfl) ?_
        go_simp
        with_reducible refine Calls.mono (HGET6.out _ (HRX6.out.below (fb1.trans (hS.mono (by omega))))) ?_
        rintro e w' ⟨rfl, rfl⟩
        refine ⟨hS, ?_⟩
        refine wpAnyH_take (i := 10) (oi := ⟨some 30, _, _, _, _, _⟩) (v := ?_) rfl (by kernel_rfl) (by kernel_rfl) (by kernel_rfl) (fun _ _ _ h => h) (Or.inl ⟨by rfl, ?_⟩) hS ?_
        rotate_left 1
        focus ((intro W' hS'; go_simp) <;> with_reducible rfl)
        try simp only [Act.put, List.setIfInBounds_toArray, List.set_cons_zero, List.set_cons_succ]
        refine anyH_one (i := 13) (by kernel_rfl) ⟨some 33, _, _, _, _, _⟩ rfl (by rfl) ?_
        go_simp
        with_reducible refine Calls.mono (HGET8.out _ (HRX8.out.below (fb1.trans (hS.mono (by omega))))) ?_
        rintro e w' ⟨rfl, rfl⟩
        refine ⟨hS, ?_⟩
        refine wpAnyH_take (i := 14) (oi := ⟨some 34, _, _, _, _, _⟩) (v := ?_) rfl (by kernel_rfl) (by kernel_rfl) (by kernel_rfl) (fun _ _ _ h => h) (Or.inl ⟨by rfl, ?_⟩) hS ?_
        rotate_left 1
        focus ((intro W' hS'; go_simp) <;> with_reducible rfl)
        try simp only [Act.put, List.setIfInBounds_toArray, List.set_cons_zero, List.set_cons_succ]
        refine anyH_one (i := 17) (by kernel_rfl) ⟨some 37, _, _, _, _, _⟩ rfl (by rfl) ?_
        refine wp_append_u8 (.const (.slice none 0 0)) (.tmp 36) _ [] bd bd rfl rfl rfl rfl rfl (OB.nil _ _) (HRB8.out.below (fb1.trans (hS.mono (by omega)))) (by simp; omega) (Nat.le_refl _) ?_
        intro A3 n3 wC ho3 hb3 _ _
        have hrb3 := ho3.rb
        have hlo := ho3.where
        try have hg := (hb3.block _ (by have := HG.out; omega)).trans hg
        have hS := hS.trans (hb3.mono hS.size)
        refine ⟨hS, ?_⟩
        try simp only [Act.put, List.setIfInBounds_toArray, List.set_cons_zero, List.set_cons_succ]
        refine wpAnyH_take (i := 18) (oi := ⟨some 38, _, _, _, _, _⟩) (v := ?_) rfl (by kernel_rfl) (by kernel_rfl) (by kernel_rfl) (fun _ _ _ h => h) (Or.inl ⟨by rfl, ?_⟩) hS ?_
        rotate_left 1
        focus ((intro W' hS'; go_simp) <;> with_reducible rfl)
        try simp only [Act.put, List.setIfInBounds_toArray, List.set_cons_zero, List.set_cons_succ]
        refine anyH_one (i := 20) (by kernel_rfl) ⟨none, _, _, _, _, _⟩ rfl (by rfl) ?_
        refine wp_store_row _ _ _ rfl _ _ rfl rfl _ _ hg infoR rfl (by simp [Value.oneCell']) ?_
        refine ⟨belowSetRow hS hgl _, ?_⟩
        refine wpAnyH_done (by kernel_rfl) ?_ _
        go_wp2_with fail
        go_meet
        exact ⟨_, A3, n3, rfl, rowSetRow hg _, hrb3.setRowNe _ (fun a ha hn => by have h1 := hlo a ha hn; have h2 := HG.out; omega), belowSetRow hS hgl _, hgl, fun a ha hn => by have h1 := hlo a ha hn; have h2 := HG.out; have h3 := HW3.out; omega, fun a ha hn => by have h1 := hlo a ha hn; have h2 := HG.out; omega⟩
    · go_simp
      generalize hG : World.alloc _ _ = wG
      obtain ⟨hg, hbG, hsG⟩ := one_facts hG
      clear hG
      have hgl := hS.size
      try have hrb3 := hrb3.below hbG
      have hS := hS.trans (hbG.mono hS.size)
      refine ⟨hS, ?_⟩
      have HG := hid hsG
      clear hsG
      refine anyH_one (i := 5) (by kernel_rfl) ⟨some 25, _, _, _, _, _⟩ rfl (by rfl) ?_
      go_simp
      with_reducible refine Calls.mono (HGET4.out _ (HRX4.out.below (fb1.trans (hS.mono (by omega))))) ?_
      rintro e w' ⟨rfl, rfl⟩
      refine ⟨hS, ?_⟩
      refine wpAnyH_take (i := 6) (oi := ⟨some 26, _, _, _, _, _⟩) (v := ?_) rfl (by kernel_rfl) (by kernel_rfl) (by kernel_rfl) (fun _ _ _ h => h) (Or.inl ⟨by rfl, ?_⟩) hS ?_
      rotate_left 1
      focus ((intro W' hS'; go_simp) <;> with_reducible rfl)
      try simp only [Act.put, List.setIfInBounds_toArray, List.set_cons_zero, List.set_cons_succ]
      refine anyH_one (i := 9) (by kernel_rfl) ⟨some 29, _, _, _, _, _⟩ rfl (by rfl) ?_
      go_simp
      with_reducible refine Calls.mono (HGET6.out _ (HRX6.out.below (fb1.trans (hS.mono (by omega))))) ?_
      rintro e w' ⟨rfl, rfl⟩
      refine ⟨hS, ?_⟩
      refine wpAnyH_take (i := 10) (oi := ⟨some 30, _, _, _, _, _⟩) (v := ?_) rfl (by kernel_rfl) (by kernel_rfl) (by kernel_rfl) (fun _ _ _ h => h) (Or.inl ⟨by rfl, ?_⟩) hS ?_
      rotate_left 1
      focus ((intro W' hS'; go_simp) <;> with_reducible rfl)
      try simp only [Act.put, List.setIfInBounds_toArray, List.set_cons_zero, List.set_cons_succ]
      refine anyH_one (i := 13) (by kernel_rfl) ⟨some 33, _, _, _, _, _⟩ rfl (by rfl) ?_
      go_simp
      with_reducible refine Calls.mono (HGET8.out _ (HRX8.out.below (fb1.trans (hS.mono (by omega))))) ?_
      rintro e w' ⟨rfl, rfl⟩
      refine ⟨hS, ?_⟩
      refine wpAnyH_take (i := 14) (oi := ⟨some 34, _, _, _, _, _⟩) (v := ?_) rfl (by kernel_rfl) (by kernel_rfl) (by kernel_rfl) (fun _ _ _ h => h) (Or.inl ⟨by rfl, ?_⟩) hS ?_
      rotate_left 1
      focus ((intro W' hS'; go_simp) <;> with_reducible rfl)
      try simp only [Act.put, List.setIfInBounds_toArray, List.set_cons_zero, List.set_cons_succ]
      refine anyH_one (i := 17) (by kernel_rfl) ⟨some 37, _, _, _, _, _⟩ rfl (by rfl) ?_
      refine wp_append_u8 (.const (.slice none 0 0)) (.tmp 36) _ [] bd bd rfl rfl rfl rfl rfl (OB.nil _ _) (HRB8.out.below (fb1.trans (hS.mono (by omega)))) (by simp; omega) (Nat.le_refl _) ?_
      intro A3 n3 wC ho3 hb3 _ _
      have hrb3 := ho3.rb
      have hlo := ho3.where
      try have hg := (hb3.block _ (by have := HG.out; omega)).trans hg
      have hS := hS.trans (hb3.mono hS.size)
      refine ⟨hS, ?_⟩
      try simp only [Act.put, List.setIfInBounds_toArray, List.set_cons_zero, List.set_cons_succ]
      refine wpAnyH_take (i := 18) (oi := ⟨some 38, _, _, _, _, _⟩) (v := ?_) rfl (by kernel_rfl) (by kernel_rfl) (by kernel_rfl) (fun _ _ _ h => h) (Or.inl ⟨by rfl, ?_⟩) hS ?_
      rotate_left 1
      focus ((intro W' hS'; go_simp) <;> with_reducible rfl)
      try simp only [Act.put, List.setIfInBounds_toArray, List.set_cons_zero, List.set_cons_succ]
      refine anyH_one (i := 20) (by kernel_rfl) ⟨none, _, _, _, _, _⟩ rfl (by rfl) ?_
      refine wp_store_row _ _ _ rfl _ _ rfl rfl _ _ hg infoR rfl (by simp [Value.oneCell']) ?_
      refine ⟨belowSetRow hS hgl _, ?_⟩
      refine wpAnyH_done (by kernel_rfl) ?_ _
      go_wp2_with fail
      go_meet
      exact ⟨_, A3, n3, rfl, rowSetRow hg _, hrb3.setRowNe _ (fun a ha hn => by have h1 := hlo a ha hn; have h2 := HG.out; omega), belowSetRow hS hgl _, hgl, fun a ha hn => by have h1 := hlo a ha hn; have h2 := HG.out; have h3 := HW3.out; omega, fun a ha hn => by have h1 := hlo a ha hn; have h2 := HG.out; omega⟩
  case rest =>
    obtain ⟨g, A3, n3, rfl, hg, hrb3, hb3, hgl, hlo3, hne3⟩ := hcut
    have hmd := HMD.out.symm
    obtain ⟨mk, mc, mi, msq, mu, md⟩ := M
    simp only at hmd
    subst hmd
    have HT0 := hid fun (j : Int) h1 h5 W => types_any j s.six W h1 h5
    have HR0 := hid r0
    have HR1 := hid r1
    have HQ0 := hid q0
    have HG2 := hid g2
    clear r0 r1 q0 g2
    go_wp2_with fail
    go_loopw [9] (fun kk wr => ∃ j : Nat, 1 ≤ j ∧ j ≤ 6 ∧ kk = .int .i64 (j : Int) ∧ Below W2.heap.size W2 wr ∧ ((Hid (K = 0 ∨ (j : Int) ≤ K) ∧ wr.heap[g]? = some (.cells (Msg.cells ⟨0, (b1.toNat : Int), (X4 : Int), (X6 : Int), (X8 : Int), bd⟩ (.slice A3 bd.length n3)) 26 (0, 0)) ∧ RB wr (.slice A3 bd.length n3) bd) ∨ (Hid (1 ≤ K ∧ K < (j : Int)) ∧ Hid (mb = false)))) (fun kk _ => (6 - intOf kk).toNat)
    case atStart => exact ⟨1, by omega, by omega, rfl, hb3, .inl ⟨by unfold Hid; omega, hg, hrb3⟩⟩
    case round =>
      clear hg hrb3 hb3
      obtain ⟨j, hj1, hj6, rfl, hbw, hst⟩ := hrel
      have r0w := keep_cell hbw HR0.out (World.block_lt_of_cell? _ _ HR0.out)
      have r1w := keep_cell hbw HR1.out (World.block_lt_of_cell? _ _ HR1.out)
      have q0w := keep_cell hbw HQ0.out (World.block_lt_of_cell? _ _ HQ0.out)
      have HST := hid hst
      clear hst
      by_cases hj5 : j ≤ 5
      · have hdj : decide ((j : Int) ≤ 5) = true := by simp; omega
        have HTY := hid fun W => HT0.out (j : Int) (by omega) (by omega) W
        have hmi := HMI.out (j : Int) (by omega) (by omega)
        generalize typK (j : Int) s.six = T at HTY hmi
        by_cases hKj : K = (j : Int)
        · have hm := hmi.2 hKj
          have e1 : ((T.toNat : Int) != (b0.toNat : Int)) = false := by simp; omega
          obtain ⟨hgw, hrbw⟩ : wr.heap[g]? = some (.cells (Msg.cells ⟨0, (b1.toNat : Int), (X4 : Int), (X6 : Int), (X8 : Int), bd⟩ (.slice A3 bd.length n3)) 26 (0, 0)) ∧ RB wr (.slice A3 bd.length n3) bd := by
            rcases HST.out with ⟨_, h1, h2⟩ | ⟨h1, _⟩
            · exact ⟨h1, h2⟩
            · have := h1.out; omega
          have hkm := HKR.out (j : Int) hKj.symm (by omega) (by omega)
          have HKM := hid hkm
          have hcase : s.six = true ∨ (s.six = false ∧ ((b0.toNat : Int) == 3) = false) ∨ (s.six = false ∧ ((b0.toNat : Int) == 3) = true ∧ ((j : Int) == 4) = true ∧ ((b1.toNat : Int) == 4) = true) ∨ (s.six = false ∧ ((b0.toNat : Int) == 3) = true ∧ ((j : Int) == 4) = false ∧ ((b1.toNat : Int) == 4) = false) := by
            have h := hm.2
            cases h6 : s.six
            · right
              rw [h6] at h
              by_cases h3 : b0.toNat = 3
              · right
                have h4 : ((j : Int) = 4 ↔ b1.toNat = 4) := by
                  rcases h with h | h | h
                  · cases h
                  · exact absurd h3 h
                  · exact h
                by_cases h5 : (j : Int) = 4
                · have := h4.1 h5
                  exact .inl ⟨rfl, by simp; omega, by simp; omega, by simp; omega⟩
                · have h6' : ¬ b1.toNat = 4 := fun h => h5 (h4.2 h)
                  exact .inr ⟨rfl, by simp; omega, by simp; omega, by simp; omega⟩
              · left; exact ⟨rfl, by simp; omega⟩
            · left; rfl
          have HKJ := hid hKj
          clear hm hkm hmi hKj HST
          rcases hcase with h6 | ⟨h6, h3⟩ | ⟨h6, h3, h4, h5⟩ | ⟨h6, h3, h4, h5⟩
          all_goals
            rw [h6] at q0w HTY
            have H6 := hid h6
            clear h6
            go_wp2_with fail
            refine wp_region_later wr.heap.size (Nat.le_refl _) (by kernel_rfl) (by kernel_rfl) ?_
            have y0 := fun x : Later wr.heap.size wr => x.cell r0w (World.block_lt_of_cell? _ _ r0w)
            have z0 := fun x : Later wr.heap.size wr => x.cell q0w (World.block_lt_of_cell? _ _ q0w)
            repeat (go_big_quiet_step ((go_at_call 39; with_reducible exact quiet_later _ (Nat.le_refl _) (HTY.out _))))
            refine wpQuiet_nil ?_
            rintro _ ⟨x, rfl⟩
            have r0x := x.cell r0w (World.block_lt_of_cell? _ _ r0w)
            have r1x := x.cell r1w (World.block_lt_of_cell? _ _ r1w)
            have q0x := x.cell q0w (World.block_lt_of_cell? _ _ q0w)
            clear y0 z0 r0w r1w q0w
            have hgx := x.blk hgw (Array.getElem?_eq_some_iff.1 hgw).1
            have hrbx := hrbw.below x.ok
            have hbx := below_after hbw x.ok (Nat.le_refl _)
            have glx : g < x.wd.heap.size := (Array.getElem?_eq_some_iff.1 hgx).1
            obtain ⟨c0, c1, c2, c3, c4, c5⟩ := msg_cells (m := ⟨_, _, _, _, _, bd⟩) hgx
            simp only at c0 c1 c2 c3 c4 c5
            have zg := frozRow hgx
            go_wp2_with fail
            have hgw1 := rowSetCell hgx 0 (.int .i64 (j : Int))
            have hb1 := hbx.setCell (p := ⟨g, 0, none⟩) hgl (.int .i64 (j : Int))
            have hrb1 := hrbx.setCellNe 0 (.int .i64 (j : Int)) hne3
            have glx1 : g < (x.wd.setCell ⟨g, 0, none⟩ (.int .i64 (j : Int))).heap.size := by rw [size_setCell]; exact glx
            generalize x.wd.setCell _ _ = w8 at hgw1 hb1 hrb1 glx1 ⊢
            clear c0 c1 c2 c3 c4 c5 zg hgx hrbx hbx r0x r1x q0x
            have hkc := kept_any ⟨(j : Int), (b1.toNat : Int), (X4 : Int), (X6 : Int), (X8 : Int), bd⟩ (.slice A3 bd.length n3) w8 hrb1
            rw [HKM.out] at hkc
            unfold Msg.v Msg.cells at hkc
            simp only at hkc
            with_reducible refine Calls.mono hkc ?_
            rintro e w9 ⟨rfl, hb9⟩
            have hg9 := (hb9.block g (by omega)).trans hgw1
            have hb10 := below_after hb1 hb9 (Nat.le_refl _)
            have hrb9 := hrb1.below hb9
            have gl9 : g < w9.heap.size := (Array.getElem?_eq_some_iff.1 hg9).1
            clear hkc hgw1 hb1 hrb1 hb9 glx1
            have hgs := rowSetRow hg9 #[.int .i64 mk, .int .u8 mc, .int .u16 mi, .int .u16 msq, .int .u32 mu, .slice A3 bd.length n3]
            have hbs := belowSetRow (b := g) hb10 hgl #[.int .i64 mk, .int .u8 mc, .int .u16 mi, .int .u16 msq, .int .u32 mu, .slice A3 bd.length n3]
            have hrbs := hrb9.setRowNe #[.int .i64 mk, .int .u8 mc, .int .u16 mi, .int .u16 msq, .int .u32 mu, .slice A3 bd.length n3] hne3
            obtain ⟨d0, d1, d2, d3, d4, d5⟩ := msg_cells (m := ⟨mk, mc, mi, msq, mu, bd⟩) hgs
            simp only at d0 d1 d2 d3 d4 d5
            have q0s := keep_cell hbs HQ0.out (World.block_lt_of_cell? _ _ HQ0.out)
            go_wp2_with (refine wpList_store_row rfl 26 (.tmp 8) (.tmp 72) rfl g _ rfl rfl _ _ hg9 infoR rfl (by simp [Value.oneCell']) ?_)
            have hmm := HMAY.out (.slice A3 bd.length n3)
            unfold Msg.v Msg.cells at hmm
            simp only at hmm
            have gls : g < (w9.setRow g #[.int .i64 mk, .int .u8 mc, .int .u16 mi, .int .u16 msq, .int .u32 mu, .slice A3 bd.length n3]).heap.size := by rw [sizeSetRow]; exact gl9
            generalize w9.setRow g _ = ws at hgs hbs hrbs gls ⊢
            clear d0 d1 d2 d3 d4 d5 q0s hg9 hb10 hrb9 gl9
            with_reducible refine Calls.mono (hmm ws hrbs) ?_
            rintro e w11 ⟨rfl, hb11⟩
            have hg11 := (hb11.block g (by omega)).trans hgs
            have hb12 := below_after hbs hb11 (Nat.le_refl _)
            have hrb11 := hrbs.below hb11
            clear hmm hgs hbs hrbs hb11
            cases mb
            · go_wp2_with fail
              go_roundw
              case rel => exact ⟨j + 1, by omega, by omega, by go_num, hb12, .inr ⟨by have := HKJ.out; unfold Hid; omega, by unfold Hid; trivial⟩⟩
              case measure => simp [intOf]; omega
            · obtain ⟨d0, d1, d2, d3, d4, d5⟩ := msg_cells (m := ⟨mk, mc, mi, msq, mu, bd⟩) hg11
              simp only at d0 d1 d2 d3 d4 d5
              have f2' := (hb12.block (w.heap.size + 1 + 1) (by omega)).trans HG2.out
              have fb9 := below_after fb1 hb12 (Nat.le_refl _)
              go_wp2_with (refine wpList_store_row rfl 26 (.tmp 6) (.tmp 77) rfl (w.heap.size + 1 + 1) _ rfl rfl _ _ f2' infoR rfl (by simp [Value.oneCell']) ?_)
              refine rmsg_ret2 (m := ⟨mk, mc, mi, msq, mu, bd⟩) (dv := .slice A3 bd.length n3) rfl rfl rfl (rowSetRow f2' _) ⟨.slice A3 bd.length n3, rfl, hrb11.setRowNe _ (fun a ha hn => by have := hlo3 a ha hn; omega), belowSetRow fb9 (by omega) _⟩
        · have hnm : ¬ (T.toNat = b0.toNat ∧ (s.six = true ∨ b0.toNat ≠ 3 ∨ ((j : Int) = 4 ↔ b1.toNat = 4))) := fun h => hKj (hmi.1 h)
          by_cases ht : T.toNat = b0.toNat
          · have hsix : s.six = false := by
              cases h6 : s.six
              · rfl
              · exact absurd ⟨ht, .inl h6⟩ hnm
            have e1 : ((T.toNat : Int) != (b0.toNat : Int)) = false := by simp; omega
            have e3 : ((b0.toNat : Int) == 3) = true := by
              by_cases h3 : b0.toNat = 3
              · simp; omega
              · exact absurd ⟨ht, .inr (.inl h3)⟩ hnm
            have e45 : (((j : Int) == 4) = true ∧ ((b1.toNat : Int) == 4) = false) ∨ (((j : Int) == 4) = false ∧ ((b1.toNat : Int) == 4) = true) := by
              by_cases h5 : (j : Int) = 4 <;> by_cases h6 : b1.toNat = 4
              · exact absurd ⟨ht, .inr (.inr ⟨fun _ => h6, fun _ => h5⟩)⟩ hnm
              · exact .inl ⟨by simp; omega, by simp; omega⟩
              · exact .inr ⟨by simp; omega, by simp; omega⟩
              · exact absurd ⟨ht, .inr (.inr ⟨fun h => absurd h h5, fun h => absurd h h6⟩)⟩ hnm
            rw [hsix] at q0w HTY
            clear hnm hmi ht hsix
            rcases e45 with ⟨e4, e5⟩ | ⟨e4, e5⟩
            all_goals
              go_wp2_with fail
              refine wp_region_later wr.heap.size (Nat.le_refl _) (by kernel_rfl) (by kernel_rfl) ?_
              have y0 := fun x : Later wr.heap.size wr => x.cell r0w (World.block_lt_of_cell? _ _ r0w)
              have z0 := fun x : Later wr.heap.size wr => x.cell q0w (World.block_lt_of_cell? _ _ q0w)
              repeat (go_big_quiet_step ((go_at_call 39; with_reducible exact quiet_later _ (Nat.le_refl _) (HTY.out _))))
              refine wpQuiet_nil ?_
              rintro _ ⟨x, rfl⟩
              have r0x := x.cell r0w (World.block_lt_of_cell? _ _ r0w)
              have r1x := x.cell r1w (World.block_lt_of_cell? _ _ r1w)
              have q0x := x.cell q0w (World.block_lt_of_cell? _ _ q0w)
              clear y0 z0 r0w r1w q0w
              go_wp2_with fail
              go_roundw
              case rel =>
                refine ⟨j + 1, by omega, by omega, by go_num, below_after hbw x.ok (Nat.le_refl _), ?_⟩
                rcases HST.out with ⟨hK, hgw, hrbw⟩ | ⟨hK, hmb⟩
                · have hK := hK.out
                  exact .inl ⟨by unfold Hid; omega, x.blk hgw (Array.getElem?_eq_some_iff.1 hgw).1, hrbw.below x.ok⟩
                · have hK := hK.out
                  exact .inr ⟨by unfold Hid; omega, hmb⟩
              case measure => simp [intOf]; omega
          · have e1 : ((T.toNat : Int) != (b0.toNat : Int)) = true := by simp; omega
            clear hnm hmi ht
            go_wp2_with fail
            refine wp_region_later wr.heap.size (Nat.le_refl _) (by kernel_rfl) (by kernel_rfl) ?_
            have y0 := fun x : Later wr.heap.size wr => x.cell r0w (World.block_lt_of_cell? _ _ r0w)
            have z0 := fun x : Later wr.heap.size wr => x.cell q0w (World.block_lt_of_cell? _ _ q0w)
            repeat (go_big_quiet_step ((go_at_call 39; with_reducible exact quiet_later _ (Nat.le_refl _) (HTY.out _))))
            refine wpQuiet_nil ?_
            rintro _ ⟨x, rfl⟩
            have r0x := x.cell r0w (World.block_lt_of_cell? _ _ r0w)
            have r1x := x.cell r1w (World.block_lt_of_cell? _ _ r1w)
            have q0x := x.cell q0w (World.block_lt_of_cell? _ _ q0w)
            clear y0 z0 r0w r1w q0w
            go_wp2_with fail
            go_roundw
            case rel =>
              refine ⟨j + 1, by omega, by omega, by go_num, below_after hbw x.ok (Nat.le_refl _), ?_⟩
              rcases HST.out with ⟨hK, hgw, hrbw⟩ | ⟨hK, hmb⟩
              · have hK := hK.out
                exact .inl ⟨by unfold Hid; omega, x.blk hgw (Array.getElem?_eq_some_iff.1 hgw).1, hrbw.below x.ok⟩
              · have hK := hK.out
                exact .inr ⟨by unfold Hid; omega, hmb⟩
            case measure => simp [intOf]; omega
      · obtain rfl : j = 6 := by omega
        have hmb : mb = false := by
          rcases HST.out with ⟨h1, _⟩ | ⟨_, h1⟩
          · have h1 := h1.out
            exact HM0.out (by have := HMK.out; omega)
          · exact h1.out
        subst hmb
        have f2' := (hbw.block (w.heap.size + 1 + 1) (by omega)).trans HG2.out
        have fb9 := below_after fb1 hbw (Nat.le_refl _)
        go_wp2_with (refine wpList_store_row rfl 26 (.tmp 6) (.tmp 78) rfl (w.heap.size + 1 + 1) _ rfl rfl _ _ f2' infoR rfl (by simp [Value.oneCell']) ?_)
        exact rmsg_ret2 (m := noMsg) (dv := .slice none 0 0) rfl rfl rfl (rowSetRow f2' _) ⟨.slice none 0 0, rfl, RB.nil _, belowSetRow fb9 (by omega) _⟩
end Go.Proofs.Ytlgkgdgmhcckfaa
