/- Walk of the law IpfourAgain. -/
import Derived.Test.YtpcfgihomplehaaIpvE
namespace Go.Proofs.Ytpcfgihomplehaa
set_option linter.unusedVariables false
set_option linter.unusedSimpArgs false
open Go.RowKit

set_option maxHeartbeats 4000000 in
theorem lawAgain4_any (v : Value) (b : List UInt8) (w : World) (hx : RB w v b) :
    Calls Try.prog 5 #[v] w fun e w' => e = .returned (.bool true) ∧ Below w.heap.size w w' := by
  have HX := hid hx
  obtain ⟨A, c, rfl, hr⟩ := hx
  clear hr
  by_cases hl : 2000 < b.length
  · have d1 : decide (2000 < b.length) = true := decide_eq_true hl
    have d2 : decide ((2000 : Int) < (b.length : Int)) = true := decide_eq_true (by omega)
    go_enter Try.func5, Try.ntmps5
    go_wp2_with fail
    refine Calls.mono (alive4_any _) ?_
    rintro e w3 ⟨rfl, hb3⟩
    go_wp2_with fail
    go_ret
    exact ⟨rfl, hb3⟩
  have d1 : decide (2000 < b.length) = false := decide_eq_false hl
  have d2 : decide ((2000 : Int) < (b.length : Int)) = false := decide_eq_false (by omega)
  have HP := hid fun W (h : Below w.heap.size w W) => parse4_any _ b W (HX.out.below h) (by omega)
  unfold ParPost4 at HP
  by_cases he : (parse4 b).2 = 0
  · have hpe := parse4_eq b he
    obtain ⟨hm, ho, _, _⟩ := parse4_ok b _ hpe
    have hag := parse4_again b _ hpe
    have hlo := hopR4_lo _ _ hag
    have hhi := hopR4_hi _ _ hag
    rw [hpe] at HP
    generalize (parse4 b).1 = p at HP hm ho hag hlo hhi
    simp only at HP
    have hlen : (lay4 p).length ≤ 70000 := Nat.le_trans (lay4_le p) (by decide)
    have HL := hid fun W u (h : RB W u p.load) => lay4_any p u W ho h
    have HM := hid fun W u (h : RB W u p.load) => may4_any p u W ho h
    have HS := hid fun W u1 u2 (h : RB W u1 p.load) (h2 : RB W u2 p.load) => fsame_any p p u1 u2 W h h2
    rw [sameP_self] at HS
    unfold BytesPost layR4 at HL
    simp only [hm, if_true] at HL HM
    have HP2 := hid fun W u (h : RB W u (lay4 p)) => parse4_any u _ W h (by omega)
    unfold ParPost4 at HP2
    rw [hag] at HP2
    simp only at HP2
    have HH := hid fun W u (h : RB W u (lay4 p)) => hop4_any u _ W h (by omega)
    unfold BytesPost at HH
    generalize lay4 p = y at HL HP2 hlen HH hlo hhi
    have HLO := hid hlo
    have HHI := hid hhi
    unfold Pkt.v at *
    clear hag hpe he hm ho hlo hhi
    go_enter Try.func5, Try.ntmps5
    go_wp2_with fail
    (with_reducible refine Calls.mono (HP.out _ (Below.refl _ _)) ?_)
    rintro e w3 ⟨dv, rfl, hr3, hb3⟩
    go_wp2_with (first
      | ((with_reducible refine at_slot 3 ?_); refine wpList_allocF rfl 28 rfl _ alloc_noPkt ?_; intro wa3 ha3 hba3 sa3; clear sa3)
      | ((with_reducible refine at_store 3 20 ?_); refine wpList_rowF rfl 28 (.tmp 3) (.tmp 20) rfl w3.heap.size 28 _ (p.cells dv) rfl rfl ha3 (info_pkt _ _) rfl (Pkt.one _ _ hr3.one) ?_; intro v3 hbl3 mb3 sb3; clear sb3)
      | ((with_reducible refine at_slot 31 ?_); refine wpList_load_row rfl 28 (.tmp 3) rfl w3.heap.size rfl _ (p.cells dv) _ _ hbl3 Try.underlying28 rfl (info_pkt _ _) ?_))
    have hv3 := mb3.below hba3 (Nat.le_refl _) (by simp)
    have hlt3 : w3.heap.size < v3.heap.size := (Array.getElem?_eq_some_iff.1 hbl3).1
    have C0 := below_after hb3 hv3 (Nat.le_refl _)
    have hr3' := hr3.below hv3
    clear mb3 hba3 ha3 hv3 hr3 hb3
    (with_reducible refine Calls.mono (HL.out _ _ hr3') ?_)
    rintro e w4 ⟨A4, k4, rfl, o4, hb4⟩
    have hr4 := o4.rb
    have C3 := hb4
    replace C0 := below_after C0 hb4 (Nat.le_refl _)
    clear hb4 o4
    go_wp2_with fail
    (with_reducible refine Calls.mono (HP2.out _ _ hr4) ?_)
    rintro e w5 ⟨dv2, rfl, hr5, hb5⟩
    replace C0 := below_after C0 hb5 (Nat.le_refl _)
    replace C3 := below_after C3 hb5 (Nat.le_refl _)
    replace hr4 := hr4.below hb5
    clear hb5
    go_wp2_with (first
      | ((with_reducible refine at_slot 7 ?_); refine wpList_allocF rfl 28 rfl _ alloc_noPkt ?_; intro wa5 ha5 hba5 sa5; clear sa5)
      | ((with_reducible refine at_store 7 38 ?_); refine wpList_rowF rfl 28 (.tmp 7) (.tmp 38) rfl w5.heap.size 28 _ (p.cells dv2) rfl rfl ha5 (info_pkt _ _) rfl (Pkt.one _ _ hr5.one) ?_; intro v5 hbl5 mb5 sb5; clear sb5)
      | ((with_reducible refine at_slot 40 ?_); refine wpList_load_row rfl 28 (.tmp 3) rfl w3.heap.size rfl _ (p.cells dv) _ _ (((below_after C3 (mb5.below hba5 (Nat.le_refl _) (by simp)) (Nat.le_refl _)).block _ hlt3).trans hbl3) Try.underlying28 rfl (info_pkt _ _) ?_))
    have hv5 := mb5.below hba5 (Nat.le_refl _) (by simp)
    have hlt5 : w5.heap.size < v5.heap.size := (Array.getElem?_eq_some_iff.1 hbl5).1
    have hr5' := hr5.below hv5
    replace hr4 := hr4.below hv5
    replace C0 := below_after C0 hv5 (Nat.le_refl _)
    replace C3 := below_after C3 hv5 (Nat.le_refl _)
    clear mb5 hba5 ha5 hv5 hr5
    (with_reducible refine Calls.mono (HM.out _ _ (hr3'.below C3)) ?_)
    rintro e w6 ⟨rfl, hb6⟩
    replace C0 := below_after C0 hb6 (Nat.le_refl _)
    replace C3 := below_after C3 hb6 (Nat.le_refl _)
    have i3 := (C3.block _ hlt3).trans hbl3
    have i5 := (hb6.block _ hlt5).trans hbl5
    have hr6 := hr5'.below hb6
    replace hr4 := hr4.below hb6
    clear hb6 hbl5 hlt5 hr5'
    go_wp2_with (first
      | ((with_reducible refine at_slot 52 ?_); refine wpList_rowG rfl 28 (.tmp 3) rfl w3.heap.size rfl _ (p.cells dv) _ i3 Try.underlying28 rfl (info_pkt _ _) ?_)
      | ((with_reducible refine at_slot 53 ?_); refine wpList_rowG rfl 28 (.tmp 7) rfl w5.heap.size rfl _ (p.cells dv2) _ i5 Try.underlying28 rfl (info_pkt _ _) ?_))
    (with_reducible refine Calls.mono (HS.out _ _ _ (hr3'.below C3) hr6) ?_)
    rintro e w7 ⟨rfl, hb7⟩
    replace C0 := below_after C0 hb7 (Nat.le_refl _)
    replace C3 := below_after C3 hb7 (Nat.le_refl _)
    replace hr4 := hr4.below hb7
    clear hb7 i3 i5 hr6
    go_wp2_with fail
    (with_reducible refine Calls.mono (HH.out _ _ hr4) ?_)
    rintro e w8 ⟨A8, k8, rfl, o8, hb8⟩
    have hr8 := o8.rb
    replace C0 := below_after C0 hb8 (Nat.le_refl _)
    replace C3 := below_after C3 hb8 (Nat.le_refl _)
    have i3 := (C3.block _ hlt3).trans hbl3
    clear hb8 o8 hr4
    by_cases hh : p.hops.toNat < 2
    · have e1 := HLO.out hh
      rw [e1] at hr8 ⊢
      simp only at hr8 ⊢
      have e2 : decide ((p.hops.toNat : Int) < 2) = true := decide_eq_true (by omega)
      obtain ⟨c0, c1, c2, c3, c4, c5, c6, c7, c8⟩ := pkt_cells i3
      clear HHI HLO hh e1
      go_wp2_with fail
      refine Calls.mono (alive4_any _) ?_
      rintro e w9 ⟨rfl, hb9⟩
      go_wp2_with fail
      go_ret
      exact ⟨rfl, below_after C0 hb9 (Nat.le_refl _)⟩
    · obtain ⟨d, x, e1, e2, e3, e4⟩ := HHI.out hh
      have HP3 := hid fun W u (h : RB W u d) => parse4_any u d W h (by omega)
      unfold ParPost4 at HP3
      rw [e2] at HP3
      simp only at HP3
      rw [e1] at hr8 ⊢
      simp only at hr8 ⊢
      have HS2 := HS
      unfold Pkt.v at *
      clear HHI HLO hh e1 e2 i3 e4
      have hx1 := x.toNat_lt
      have hadd : (x.toNat : Int) + 1 = (p.hops.toNat : Int) := by omega
      have hmd : (p.hops.toNat : Int) % 256 = (p.hops.toNat : Int) := by have := p.hops.toNat_lt; omega
      go_wp2_with fail
      (with_reducible refine Calls.mono (HP3.out _ _ hr8) ?_)
      rintro e w9 ⟨dv3, rfl, hr9, hb9⟩
      replace C0 := below_after C0 hb9 (Nat.le_refl _)
      replace C3 := below_after C3 hb9 (Nat.le_refl _)
      clear hb9 hr8
      go_wp2_with (first
        | ((with_reducible refine at_slot 11 ?_); refine wpList_allocF rfl 28 rfl _ alloc_noPkt ?_; intro wa9 ha9 hba9 sa9; clear sa9)
        | ((with_reducible refine at_store 11 73 ?_); refine wpList_rowF rfl 28 (.tmp 11) (.tmp 73) rfl w9.heap.size 28 _ (Pkt.cells { p with hops := x } dv3) rfl rfl ha9 (info_pkt _ _) rfl (Pkt.one _ _ hr9.one) ?_; intro v9 hbl9 mb9 sb9; clear sb9; obtain ⟨c0, c1, c2, c3, c4, c5, c6, c7, c8⟩ := pkt_cells hbl9; clear c0 c1 c2 c4 c5 c6 c7 c8)
        | ((with_reducible refine at_store 78 77 ?_); refine wpList_partF rfl 5 (.tmp 78) (.tmp 77) rfl w9.heap.size 35 28 (Pkt.cells { p with hops := x } dv3) (p.cells dv3) [.int .u8 (p.hops.toNat : Int)] rfl rfl hbl9 (by show 35 + 1 ≤ 41; omega) (by simp [Value.oneCell']) (by kernel_rfl) rfl ?_; intro w10 hbl10 m10 s10; clear s10; have hv9 := mb9.below hba9 (Nat.le_refl _) (by simp); have D3 := m10.below (below_after C3 hv9 (Nat.le_refl _)) (Nat.le_refl _) (by have := C3.size; simp; omega); have i3 := (D3.block _ hlt3).trans hbl3)
        | ((with_reducible refine at_slot 82 ?_); refine wpList_rowG rfl 28 (.tmp 11) rfl w9.heap.size rfl _ (p.cells dv3) _ hbl10 Try.underlying28 rfl (info_pkt _ _) ?_)
        | ((with_reducible refine at_slot 83 ?_); refine wpList_rowG rfl 28 (.tmp 3) rfl w3.heap.size rfl _ (p.cells dv) _ i3 Try.underlying28 rfl (info_pkt _ _) ?_))
      have hr10 := (hr9.below hv9).mod' (RB.lt hr9) m10
      have D0 := m10.below (below_after C0 hv9 (Nat.le_refl _)) (Nat.le_refl _) (by have := C0.size; simp; omega)
      (with_reducible refine Calls.mono (HS.out _ _ _ hr10 (hr3'.below D3)) ?_)
      rintro e w11 ⟨rfl, hb11⟩
      replace D0 := below_after D0 hb11 (Nat.le_refl _)
      clear hb11 hr10 D3 i3 hbl10 m10 hv9 mb9 hba9 ha9 hr9 hbl9
      go_wp2_with fail
      refine Calls.mono (alive4_any _) ?_
      rintro e w12 ⟨rfl, hb12⟩
      go_wp2_with fail
      go_ret
      exact ⟨rfl, below_after D0 hb12 (Nat.le_refl _)⟩
  · have hn := parse4_bad b he
    generalize (parse4 b).2 = e1 at HP he
    rw [hn] at HP
    have HS := hid fun W u1 u2 (h : RB W u1 noPkt.load) (h2 : RB W u2 noPkt.load) => fsame_any noPkt noPkt u1 u2 W h h2
    rw [sameP_self] at HS
    have n1 : (e1 != 0) = true := by simpa using he
    have n2 : decide (e1 = 0) = false := decide_eq_false he
    unfold Pkt.v at *
    clear hn he HX
    go_enter Try.func5, Try.ntmps5
    go_wp2_with fail
    (with_reducible refine Calls.mono (HP.out _ (Below.refl _ _)) ?_)
    rintro e w3 ⟨dv, rfl, hr3, hb3⟩
    go_wp2_with (first
      | ((with_reducible refine at_slot 3 ?_); refine wpList_allocF rfl 28 rfl _ alloc_noPkt ?_; intro wa3 ha3 hba3 sa3; clear sa3)
      | ((with_reducible refine at_store 3 20 ?_); refine wpList_rowF rfl 28 (.tmp 3) (.tmp 20) rfl w3.heap.size 28 _ (noPkt.cells dv) rfl rfl ha3 (info_pkt _ _) rfl (Pkt.one _ _ hr3.one) ?_; intro v3 hbl3 mb3 sb3; clear sb3)
      | ((with_reducible refine at_slot 24 ?_); refine wpList_load_row rfl 28 (.tmp 3) rfl w3.heap.size rfl _ (noPkt.cells dv) _ _ hbl3 Try.underlying28 rfl (info_pkt _ _) ?_)
      | ((with_reducible refine at_build 28 ?_); refine wpList_buildF rfl 28 _ rfl #[] rfl _ build_noPkt ?_))
    have hv3 := mb3.below hba3 (Nat.le_refl _) (by simp)
    have C0 := below_after hb3 hv3 (Nat.le_refl _)
    have hr3' := hr3.below hv3
    clear mb3 hba3 ha3 hv3 hr3 hb3
    refine Calls.mono (HS.out _ _ nilS hr3' (RB.nil _)) ?_
    rintro e w4 ⟨rfl, hb4⟩
    replace C0 := below_after C0 hb4 (Nat.le_refl _)
    clear hb4 hr3' hbl3
    go_wp2_with fail
    refine Calls.mono (alive4_any _) ?_
    rintro e w9 ⟨rfl, hb9⟩
    go_wp2_with fail
    go_ret
    exact ⟨rfl, below_after C0 hb9 (Nat.le_refl _)⟩
end Go.Proofs.Ytpcfgihomplehaa
