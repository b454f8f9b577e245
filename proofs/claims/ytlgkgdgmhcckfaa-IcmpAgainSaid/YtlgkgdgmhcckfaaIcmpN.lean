/- Walk of the law IcmpAgain. -/
import Derived.Test.YtlgkgdgmhcckfaaIcmpL
import Derived.Deep.Cut
namespace Go.Proofs.Ytlgkgdgmhcckfaa
set_option linter.unusedVariables false
set_option linter.unusedSimpArgs false
open Go.RowKit

theorem parseS_ok (b : List UInt8) (s d : Adr) : (parseS b s d).Ok := by
  unfold parseS; split
  · exact readS_ok _ _
  · exact noMsg_ok
theorem parseS_len (b : List UInt8) (s d : Adr) : (parseS b s d).data.length ≤ b.length := by
  unfold parseS; split
  · show (b.drop 8).length ≤ _
    rw [List.length_drop]; omega
  · exact Nat.zero_le _
set_option maxHeartbeats 4000000 in
theorem lawAgain_any (v : Value) (b : List UInt8) (s d : Adr) (w : World) (hx : RB w v b) :
    Calls Try.prog 6 #[v, .agg (s.cells ++ d.cells)] w fun e w' => e = .returned (.bool true) ∧ Below w.heap.size w w' := by
  have hx0 := hid hx
  obtain ⟨A, c, rfl, hrow⟩ := hx
  have hcap := hrow.cap
  have htop := hrow.top
  clear hrow
  have k0 : (s.cells ++ d.cells)[0]? = some (.bool s.six) := pair_l s d 0 _ rfl
  by_cases hl : 3000 < b.length
  · have hd : decide ((3000 : Int) < (b.length : Int)) = true := by simp; omega
    go_enter Try.func6, Try.ntmps6
    go_wp2_with fail
    refine Calls.mono (alive_any _) ?_
    rintro e w2 ⟨rfl, hb2⟩
    go_wp2_with fail
    go_ret
    exact ⟨rfl, below_after (one_facts rfl).2.1 hb2 (Nat.le_refl _)⟩
  have hd : decide ((3000 : Int) < (b.length : Int)) = false := by simp; omega
  have HP := hid fun v W (h : RB W v b) => parse_any v b s d W h (by omega)
  by_cases he : perrS b s d = 0
  · have hMok := parseS_ok b s d
    have hMlen := parseS_len b s d
    have hlb := perrS_lays b s d he
    have hmay := perrS_may b s d he
    rw [he] at HP
    generalize parseS b s d = M at HP hMok hMlen hlb hmay
    have hps := parse_lay M hMok s d hlb
    have her : lerr M s = 0 := by unfold lerr; rw [hlb]; rfl
    have hLl : (layS M s d).length = 8 + M.data.length := by unfold layS; rw [if_pos hlb, bytesS_length]
    have HL := hid fun v W (h : RB W v M.data) => lay_any M hMok v s d W h (by omega)
    rw [her] at HL
    have HP2 := hid fun v W (h : RB W v (layS M s d)) => parse_any v (layS M s d) s d W h (by omega)
    rw [hps.1, hps.2] at HP2
    have HR := hid fun v W (h : RB W v M.data) => reply_any M v W h (by omega)
    have HMA := hid fun v W (h : RB W v M.data) => may_any M v s.six W h
    rw [hmay] at HMA
    have HSM := hid fun u v W (h : RB W u M.data) (h2 : RB W v M.data) => same_any M M u v W h h2
    rw [(sameS_iff M M).2 rfl] at HSM
    have hrp : replyS M = if M.kind = 1 then ⟨2, 0, M.id, M.seq, 0, M.data⟩ else noMsg := rfl
    generalize layS M s d = L at HL HP2
    clear hMok hMlen hlb hmay hps her hLl he hl
    generalize s.six = six at *
    obtain ⟨k, co, i, sq, u, dt⟩ := M
    simp only at *
    have HRP := hid hrp
    clear hrp
    generalize replyS ⟨k, co, i, sq, u, dt⟩ = rp at HR HRP
    go_enter Try.func6, Try.ntmps6
    unfold Msg.v Msg.cells at HP HL HP2 HMA HSM HR
    go_wp2_with (first
      | refine wpList_load_at 29 (.tmp 19) rfl rfl ⟨w.heap.size, 0, none⟩ rfl s.cells _ (cells_part (one_facts rfl).1 (pair_l s d)) Try.underlying29 rfl (info_addr s) ?_
      | refine wpList_load_at 29 (.tmp 21) rfl rfl ⟨w.heap.size, 17, none⟩ rfl d.cells _ (cells_part (one_facts rfl).1 (pair_r s d)) Try.underlying29 rfl (info_addr d) ?_)
    generalize hW : w.alloc _ = W
    obtain ⟨f2, fb, fs⟩ := one_facts hW
    clear hW
    with_reducible refine Calls.mono (HP.out _ W (hx0.out.below fb)) ?_
    rintro e w1 ⟨dv1, rfl, hr1, hb1⟩
    have hr1' := hr1
    obtain ⟨A1, n1, rfl, _⟩ := hr1'
    replace f2 := (hb1.block _ (by omega)).trans f2
    replace fb := below_after fb hb1 (Nat.le_refl _)
    replace fs : w.heap.size + 1 ≤ w1.heap.size := Nat.le_trans (Nat.le_of_eq fs.symm) hb1.size
    clear hb1
    go_upto_region 6 with fail
    generalize hW : w1.alloc _ = w2
    obtain ⟨f5, hb2, fs2⟩ := one_facts hW
    clear hW
    replace f2 := (hb2.block _ (by omega)).trans f2
    replace fb := below_after fb hb2 (Nat.le_refl _)
    replace hr1 := hr1.below hb2
    have l5 : w1.heap.size < w2.heap.size := by omega
    have l25 : w.heap.size < w1.heap.size := by omega
    generalize w1.heap.size = X at *
    clear hb2 fs2
    obtain ⟨c0, c1, c2, c3, c4, c5⟩ := msg_cells (m := ⟨_, _, _, _, _, dt⟩) f5
    simp only at c0 c1 c2 c3 c4 c5
    go_wp2_with (first
      | refine wpList_load_at 29 (.tmp 36) rfl rfl ⟨w.heap.size, 0, none⟩ rfl s.cells _ (cells_part f2 (pair_l s d)) Try.underlying29 rfl (info_addr s) ?_
      | refine wpList_load_at 29 (.tmp 38) rfl rfl ⟨w.heap.size, 17, none⟩ rfl d.cells _ (cells_part f2 (pair_r s d)) Try.underlying29 rfl (info_addr d) ?_)
    with_reducible refine Calls.mono (HL.out _ _ hr1) ?_
    rintro e w3 ⟨A3, n3, rfl, ho3, hb3⟩
    have hr3 := ho3.rb
    replace f2 := (hb3.block _ (by omega)).trans f2
    replace f5 := (hb3.block _ (by omega)).trans f5
    replace fb := below_after fb hb3 (Nat.le_refl _)
    replace hr1 := hr1.below hb3
    replace l5 := Nat.lt_of_lt_of_le l5 hb3.size
    clear hb3 ho3 c0 c1 c2 c3 c4 c5
    go_wp2_with (first
      | refine wpList_load_at 29 (.tmp 45) rfl rfl ⟨w.heap.size, 0, none⟩ rfl s.cells _ (cells_part f2 (pair_l s d)) Try.underlying29 rfl (info_addr s) ?_
      | refine wpList_load_at 29 (.tmp 47) rfl rfl ⟨w.heap.size, 17, none⟩ rfl d.cells _ (cells_part f2 (pair_r s d)) Try.underlying29 rfl (info_addr d) ?_)
    with_reducible refine Calls.mono (HP2.out _ _ hr3) ?_
    rintro e w4 ⟨dv4, rfl, hr4, hb4⟩
    have hr4' := hr4
    obtain ⟨A4, n4, rfl, _⟩ := hr4'
    replace f2 := (hb4.block _ (by omega)).trans f2
    replace f5 := (hb4.block _ (by omega)).trans f5
    replace fb := below_after fb hb4 (Nat.le_refl _)
    replace hr1 := hr1.below hb4
    replace l5 := Nat.lt_of_lt_of_le l5 hb4.size
    clear hb4 hr3
    go_upto_region 8 with fail
    generalize hW : w4.alloc _ = w5
    obtain ⟨f9, hb5, fs5⟩ := one_facts hW
    clear hW
    replace f2 := (hb5.block _ (by omega)).trans f2
    replace f5 := (hb5.block _ (by omega)).trans f5
    replace fb := below_after fb hb5 (Nat.le_refl _)
    replace hr1 := hr1.below hb5
    replace hr4 := hr4.below hb5
    have l9 : w4.heap.size < w5.heap.size := by omega
    replace l5 := Nat.lt_of_lt_of_le l5 hb5.size
    generalize w4.heap.size = Y at *
    clear hb5 fs5
    obtain ⟨c0, c1, c2, c3, c4, c5⟩ := msg_cells (m := ⟨_, _, _, _, _, dt⟩) f5
    simp only at c0 c1 c2 c3 c4 c5
    go_wp2_with fail
    with_reducible refine Calls.mono (HR.out _ _ hr1) ?_
    rintro e w6 ⟨dv6, rfl, hr6, hb6⟩
    have hr6' := hr6
    obtain ⟨A6, n6, rfl, _⟩ := hr6'
    replace f2 := (hb6.block _ (by omega)).trans f2
    replace f5 := (hb6.block _ (by omega)).trans f5
    replace f9 := (hb6.block _ (by omega)).trans f9
    replace fb := below_after fb hb6 (Nat.le_refl _)
    replace hr1 := hr1.below hb6
    replace hr4 := hr4.below hb6
    replace l5 := Nat.lt_of_lt_of_le l5 hb6.size
    replace l9 := Nat.lt_of_lt_of_le l9 hb6.size
    clear hb6 c0 c1 c2 c3 c4 c5
    obtain ⟨rk, rc, ri, rs, ru, rd⟩ := rp
    simp only at hr6 ⊢
    go_upto_region 9 with fail
    generalize hW : w6.alloc _ = w7
    obtain ⟨f11, hb7, fs7⟩ := one_facts hW
    clear hW
    replace f2 := (hb7.block _ (by omega)).trans f2
    replace f5 := (hb7.block _ (by omega)).trans f5
    replace f9 := (hb7.block _ (by omega)).trans f9
    replace fb := below_after fb hb7 (Nat.le_refl _)
    replace hr1 := hr1.below hb7
    replace hr4 := hr4.below hb7
    replace hr6 := hr6.below hb7
    have l11 : w6.heap.size < w7.heap.size := by omega
    replace l5 := Nat.lt_of_lt_of_le l5 hb7.size
    replace l9 := Nat.lt_of_lt_of_le l9 hb7.size
    generalize w6.heap.size = Z at *
    clear hb7 fs7
    by_cases hk1 : k = 1
    · have hrp := HRP.out
      rw [if_pos hk1] at hrp
      simp only [Msg.mk.injEq] at hrp
      obtain ⟨rfl, rfl, rfl, rfl, rfl, rfl⟩ := hrp
      rw [decide_eq_true hk1]
      have hkb : (k == 1) = true := by simp [hk1]
      clear hk1
      obtain ⟨c0, c1, c2, c3, c4, c5⟩ := msg_cells (m := ⟨_, _, _, _, _, rd⟩) f5
      simp only at c0 c1 c2 c3 c4 c5
      have q0 := (cellRow f2 0).trans k0
      go_wp2_with fail
      with_reducible refine Calls.mono (HMA.out _ _ hr1) ?_
      rintro e w8 ⟨rfl, hb8⟩
      replace f5 := (hb8.block _ (by omega)).trans f5
      replace f9 := (hb8.block _ (by omega)).trans f9
      replace f11 := (hb8.block _ (by omega)).trans f11
      replace fb := below_after fb hb8 (Nat.le_refl _)
      replace hr1 := hr1.below hb8
      replace hr4 := hr4.below hb8
      replace hr6 := hr6.below hb8
      replace l5 := Nat.lt_of_lt_of_le l5 hb8.size
      replace l9 := Nat.lt_of_lt_of_le l9 hb8.size
      replace l11 := Nat.lt_of_lt_of_le l11 hb8.size
      clear hb8
      clear c0 c1 c2 c3 c4 c5 q0
      obtain ⟨c0, c1, c2, c3, c4, c5⟩ := msg_cells (m := ⟨_, _, _, _, _, rd⟩) f5
      obtain ⟨y0, y1, y2, y3, y4, y5⟩ := msg_cells (m := ⟨_, _, _, _, _, rd⟩) f9
      simp only at c0 c1 c2 c3 c4 c5 y0 y1 y2 y3 y4 y5
      go_wp2_with fail
      with_reducible refine Calls.mono (HSM.out _ _ _ hr1 hr4) ?_
      rintro e w9 ⟨rfl, hb9⟩
      replace f5 := (hb9.block _ (by omega)).trans f5
      replace f9 := (hb9.block _ (by omega)).trans f9
      replace f11 := (hb9.block _ (by omega)).trans f11
      replace fb := below_after fb hb9 (Nat.le_refl _)
      replace hr1 := hr1.below hb9
      replace hr4 := hr4.below hb9
      replace hr6 := hr6.below hb9
      replace l5 := Nat.lt_of_lt_of_le l5 hb9.size
      replace l9 := Nat.lt_of_lt_of_le l9 hb9.size
      replace l11 := Nat.lt_of_lt_of_le l11 hb9.size
      clear hb9
      clear c0 c1 c2 c3 c4 c5 y0 y1 y2 y3 y4 y5
      obtain ⟨c0, c1, c2, c3, c4, c5⟩ := msg_cells (m := ⟨_, _, _, _, _, rd⟩) f5
      obtain ⟨y0, y1, y2, y3, y4, y5⟩ := msg_cells (m := ⟨_, _, _, _, _, rd⟩) f11
      simp only at c0 c1 c2 c3 c4 c5 y0 y1 y2 y3 y4 y5
      have s1 := conv_str hr1
      have s6 := conv_str hr6
      go_wp2_with fail
      refine Calls.mono (alive_any _) ?_
      rintro e w10 ⟨rfl, hb10⟩
      go_wp2_with fail
      go_ret
      exact ⟨rfl, below_after fb hb10 (Nat.le_refl _)⟩
    · rw [decide_eq_false hk1]
      have hkb : (k == 1) = false := by simp [hk1]
      have hrp := HRP.out
      rw [if_neg hk1] at hrp
      unfold noMsg at hrp
      simp only [Msg.mk.injEq] at hrp
      obtain ⟨rfl, rfl, rfl, rfl, rfl, rfl⟩ := hrp
      clear hk1
      obtain ⟨c0, c1, c2, c3, c4, c5⟩ := msg_cells (m := ⟨_, _, _, _, _, dt⟩) f5
      simp only at c0 c1 c2 c3 c4 c5
      have q0 := (cellRow f2 0).trans k0
      go_wp2_with fail
      with_reducible refine Calls.mono (HMA.out _ _ hr1) ?_
      rintro e w8 ⟨rfl, hb8⟩
      replace f5 := (hb8.block _ (by omega)).trans f5
      replace f9 := (hb8.block _ (by omega)).trans f9
      replace f11 := (hb8.block _ (by omega)).trans f11
      replace fb := below_after fb hb8 (Nat.le_refl _)
      replace hr1 := hr1.below hb8
      replace hr4 := hr4.below hb8
      replace hr6 := hr6.below hb8
      replace l5 := Nat.lt_of_lt_of_le l5 hb8.size
      replace l9 := Nat.lt_of_lt_of_le l9 hb8.size
      replace l11 := Nat.lt_of_lt_of_le l11 hb8.size
      clear hb8
      clear c0 c1 c2 c3 c4 c5 q0
      obtain ⟨c0, c1, c2, c3, c4, c5⟩ := msg_cells (m := ⟨_, _, _, _, _, dt⟩) f5
      obtain ⟨y0, y1, y2, y3, y4, y5⟩ := msg_cells (m := ⟨_, _, _, _, _, dt⟩) f9
      simp only at c0 c1 c2 c3 c4 c5 y0 y1 y2 y3 y4 y5
      go_wp2_with fail
      with_reducible refine Calls.mono (HSM.out _ _ _ hr1 hr4) ?_
      rintro e w9 ⟨rfl, hb9⟩
      replace f5 := (hb9.block _ (by omega)).trans f5
      replace f9 := (hb9.block _ (by omega)).trans f9
      replace f11 := (hb9.block _ (by omega)).trans f11
      replace fb := below_after fb hb9 (Nat.le_refl _)
      replace hr1 := hr1.below hb9
      replace hr4 := hr4.below hb9
      replace hr6 := hr6.below hb9
      replace l5 := Nat.lt_of_lt_of_le l5 hb9.size
      replace l9 := Nat.lt_of_lt_of_le l9 hb9.size
      replace l11 := Nat.lt_of_lt_of_le l11 hb9.size
      clear hb9
      clear c0 c1 c2 c3 c4 c5 y0 y1 y2 y3 y4 y5
      obtain ⟨c0, c1, c2, c3, c4, c5⟩ := msg_cells (m := ⟨_, _, _, _, _, dt⟩) f5
      obtain ⟨y0, y1, y2, y3, y4, y5⟩ := msg_cells (m := ⟨_, _, _, _, _, []⟩) f11
      simp only at c0 c1 c2 c3 c4 c5 y0 y1 y2 y3 y4 y5
      go_wp2_with fail
      refine Calls.mono (alive_any _) ?_
      rintro e w10 ⟨rfl, hb10⟩
      go_wp2_with fail
      go_ret
      exact ⟨rfl, below_after fb hb10 (Nat.le_refl _)⟩
  · have hps : parseS b s d = noMsg := by unfold parseS; rw [if_neg he]
    rw [hps] at HP
    have hne : (perrS b s d != 0) = true := by simp [he]
    generalize perrS b s d = er at HP hne
    have HSM := hid fun u v W (h : RB W u []) (h2 : RB W v []) => same_any noMsg noMsg u v W h h2
    rw [show sameS noMsg noMsg = true from rfl] at HSM
    clear he hps hl
    unfold noMsg at HP HSM
    simp only at HP HSM
    go_enter Try.func6, Try.ntmps6
    unfold Msg.v Msg.cells at HP HSM
    go_wp2_with (first
      | refine wpList_load_at 29 (.tmp 19) rfl rfl ⟨w.heap.size, 0, none⟩ rfl s.cells _ (cells_part (one_facts rfl).1 (pair_l s d)) Try.underlying29 rfl (info_addr s) ?_
      | refine wpList_load_at 29 (.tmp 21) rfl rfl ⟨w.heap.size, 17, none⟩ rfl d.cells _ (cells_part (one_facts rfl).1 (pair_r s d)) Try.underlying29 rfl (info_addr d) ?_)
    generalize hW : w.alloc _ = W
    obtain ⟨f2, fb, fs⟩ := one_facts hW
    clear hW
    with_reducible refine Calls.mono (HP.out _ W (hx0.out.below fb)) ?_
    rintro e w1 ⟨dv1, rfl, hr1, hb1⟩
    have hr1' := hr1
    obtain ⟨A1, n1, rfl, _⟩ := hr1'
    replace fb := below_after fb hb1 (Nat.le_refl _)
    clear hb1 f2 fs
    go_wp2_with fail
    with_reducible refine Calls.mono (HSM.out _ _ _ (hr1.below (one_facts rfl).2.1) (RB.nil _)) ?_
    rintro e w2 ⟨rfl, hb2⟩
    replace fb := below_after (below_after fb (one_facts rfl).2.1 (Nat.le_refl _)) hb2 (Nat.le_refl _)
    go_wp2_with fail
    refine Calls.mono (alive_any _) ?_
    rintro e w3 ⟨rfl, hb3⟩
    go_wp2_with fail
    go_ret
    exact ⟨rfl, below_after fb hb3 (Nat.le_refl _)⟩
end Go.Proofs.Ytlgkgdgmhcckfaa
