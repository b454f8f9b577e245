/- Walks of the laws IpsixWraps and IpsixParses. -/
import Derived.Test.YtlijgcmcpehplaaLx6A
namespace Go.Proofs.Ytlijgcmcpehplaa
set_option linter.unusedVariables false
set_option linter.unusedSimpArgs false
open Go.RowKit

set_option maxHeartbeats 4000000 in
theorem lawWraps6_any (v u : Value) (b load : List UInt8) (next : UInt8) (w : World) (hx : RB w v b) (hy : RB w u load) :
    Calls Try.prog 4 #[v, .int .u8 (next.toNat : Int), u] w fun e w' => e = .returned (.bool true) ∧ Below w.heap.size w w' := by
  have HX := hid hx
  have HY := hid hy
  obtain ⟨Au, cu, rfl, hru⟩ := hy
  obtain ⟨A, c, rfl, hr⟩ := hx
  clear hr hru
  by_cases hl : 3000 < b.length
  · have d1 : decide (3000 < b.length) = true := decide_eq_true hl
    have d2 : decide ((3000 : Int) < (b.length : Int)) = true := decide_eq_true (by omega)
    go_enter Try.func4, Try.ntmps4
    go_wp2_with fail
    refine Calls.mono (alive6_any _) ?_
    rintro e w3 ⟨rfl, hb3⟩
    go_wp2_with fail
    go_ret
    exact ⟨rfl, hb3⟩
  have d1 : decide (3000 < b.length) = false := decide_eq_false hl
  have d2 : decide ((3000 : Int) < (b.length : Int)) = false := decide_eq_false (by omega)
  by_cases hl2 : 3000 < load.length
  · have d3 : decide (3000 < load.length) = true := decide_eq_true hl2
    have d4 : decide ((3000 : Int) < (load.length : Int)) = true := decide_eq_true (by omega)
    go_enter Try.func4, Try.ntmps4
    go_wp2_with fail
    refine Calls.mono (alive6_any _) ?_
    rintro e w3 ⟨rfl, hb3⟩
    go_wp2_with fail
    go_ret
    exact ⟨rfl, hb3⟩
  have d3 : decide (3000 < load.length) = false := decide_eq_false hl2
  have d4 : decide ((3000 : Int) < (load.length : Int)) = false := decide_eq_false (by omega)
  have HW := hid fun W (h : Below w.heap.size w W) => wrap6_any _ _ b load next W (HX.out.below h) (HY.out.below h) (by omega) (by omega)
  have HR := hid fun W (h : Below w.heap.size w W) => rwrap6_any _ _ b load next W (HX.out.below h) (HY.out.below h) (by omega) (by omega)
  unfold BytesPost at HW HR
  generalize wrap6 b next load = r at HW HR
  obtain ⟨q, e0⟩ := r
  simp only at HW HR
  clear hl hl2 HX HY
  go_enter Try.func4, Try.ntmps4
  go_wp2_with fail
  (with_reducible refine Calls.mono (HW.out _ (Below.refl _ _)) ?_)
  rintro e w3 ⟨A3, k3, rfl, o3, hb3⟩
  have hr3 := o3.rb
  clear o3
  go_wp2_with fail
  (with_reducible refine Calls.mono (HR.out _ hb3) ?_)
  rintro e w4 ⟨A4, k4, rfl, o4, hb4⟩
  have hr4 := o4.rb
  have hs3 := hr3.below hb4
  have hB := below_after hb3 hb4 (Nat.le_refl _)
  have r3 := conv_str hs3
  have r4 := conv_str hr4
  clear o4 hr3 hb3 hb4 hs3 hr4
  go_wp2_with fail
  refine Calls.mono (alive6_any _) ?_
  rintro e w5 ⟨rfl, hb5⟩
  go_wp2_with fail
  go_ret
  exact ⟨rfl, below_after hB hb5 (Nat.le_refl _)⟩
set_option maxHeartbeats 4000000 in
theorem lawParses6_any (v : Value) (b : List UInt8) (w : World) (hx : RB w v b) :
    Calls Try.prog 7 #[v] w fun e w' => e = .returned (.bool true) ∧ Below w.heap.size w w' := by
  have HX := hid hx
  obtain ⟨A, c, rfl, hr⟩ := hx
  clear hr
  by_cases hl : 3000 < b.length
  · have d1 : decide (3000 < b.length) = true := decide_eq_true hl
    have d2 : decide ((3000 : Int) < (b.length : Int)) = true := decide_eq_true (by omega)
    go_enter Try.func7, Try.ntmps7
    go_wp2_with fail
    refine Calls.mono (alive6_any _) ?_
    rintro e w3 ⟨rfl, hb3⟩
    go_wp2_with fail
    go_ret
    exact ⟨rfl, hb3⟩
  have d1 : decide (3000 < b.length) = false := decide_eq_false hl
  have d2 : decide ((3000 : Int) < (b.length : Int)) = false := decide_eq_false (by omega)
  have HP := hid fun W (h : Below w.heap.size w W) => parse6_any _ b W (HX.out.below h) (by omega)
  have HRP := hid fun W (h : Below w.heap.size w W) => rparse6_any _ b W (HX.out.below h) (by omega)
  have HH := hid fun W (h : Below w.heap.size w W) => hop6_any _ b W (HX.out.below h) (by omega)
  have HRH := hid fun W (h : Below w.heap.size w W) => rhop6_any _ b W (HX.out.below h) (by omega)
  unfold BytesPost at HH HRH
  unfold ParPost at HP HRP
  generalize hop6 b = r at HH HRH
  obtain ⟨q, e0⟩ := r
  generalize parse6 b = pr at HP HRP
  obtain ⟨p, e1⟩ := pr
  simp only at HH HRH HP HRP
  have HS := hid fun W u1 u2 (h : RB W u1 p.load) (h2 : RB W u2 p.load) => same_any p p u1 u2 W h h2
  rw [sameP_self] at HS
  unfold Pkt.v at *
  clear hl HX
  go_enter Try.func7, Try.ntmps7
  go_wp2_with fail
  (with_reducible refine Calls.mono (HP.out _ (Below.refl _ _)) ?_)
  rintro e w3 ⟨dv, rfl, hr3, hb3⟩
  go_wp2_with (first
    | ((with_reducible refine at_slot 3 ?_); refine wpList_allocF rfl 28 rfl _ alloc_noPkt ?_; intro wa3 ha3 hba3 sa3; clear sa3)
    | ((with_reducible refine at_store 3 18 ?_); refine wpList_rowF rfl 28 (.tmp 3) (.tmp 18) rfl w3.heap.size 28 _ (p.cells dv) rfl rfl ha3 (info_pkt _ _) rfl (Pkt.one _ _ hr3.one) ?_; intro wb3 hbl3 mb3 sb3; clear sb3))
  have hv3 := mb3.below hba3 (Nat.le_refl _) (by simp)
  have hlt3 : w3.heap.size < wb3.heap.size := (Array.getElem?_eq_some_iff.1 hbl3).1
  clear mb3 hba3 ha3
  have hB3 := below_after hb3 hv3 (Nat.le_refl _)
  have hr3' := hr3.below hv3
  clear hv3 hr3 hb3
  (with_reducible refine Calls.mono (HRP.out _ hB3) ?_)
  rintro e w4 ⟨dv2, rfl, hr4, hb4⟩
  go_wp2_with (first
    | ((with_reducible refine at_slot 5 ?_); refine wpList_allocF rfl 28 rfl _ alloc_noPkt ?_; intro wa4 ha4 hba4 sa4; clear sa4)
    | ((with_reducible refine at_store 5 23 ?_); refine wpList_rowF rfl 28 (.tmp 5) (.tmp 23) rfl w4.heap.size 28 _ (p.cells dv2) rfl rfl ha4 (info_pkt _ _) rfl (Pkt.one _ _ hr4.one) ?_; intro wb4 hbl4 mb4 sb4; clear sb4))
  have hv4 := mb4.below hba4 (Nat.le_refl _) (by simp)
  have hlt4 : w4.heap.size < wb4.heap.size := (Array.getElem?_eq_some_iff.1 hbl4).1
  clear mb4 hba4 ha4
  have hB4 := below_after hB3 (below_after hb4 hv4 (Nat.le_refl _)) (Nat.le_refl _)
  have hl4 := Nat.lt_of_lt_of_le hlt3 (Nat.le_trans hb4.size hv4.size)
  have hm4 := (hv4.block _ (Nat.lt_of_lt_of_le hlt3 hb4.size)).trans ((hb4.block _ hlt3).trans hbl3)
  have hr3 := (hr3'.below hb4).below hv4
  have hr4' := hr4.below hv4
  clear hv4 hr4 hb4 hr3' hB3 hbl3 hlt3
  (with_reducible refine Calls.mono (HH.out _ hB4) ?_)
  rintro e w5 ⟨A5, k5, rfl, o5, hb5⟩
  have hr5 := o5.rb
  have hB5 := below_after hB4 hb5 (Nat.le_refl _)
  have g1 := (hb5.block _ hl4).trans hm4
  have g2 := (hb5.block _ hlt4).trans hbl4
  have hl5 := Nat.lt_of_lt_of_le hl4 hb5.size
  have hl5' := Nat.lt_of_lt_of_le hlt4 hb5.size
  have x3 := hr3.below hb5
  have x4 := hr4'.below hb5
  clear hb5 o5 hB4 hl4 hlt4 hm4 hbl4 hr3 hr4'
  go_wp2_with fail
  (with_reducible refine Calls.mono (HRH.out _ hB5) ?_)
  rintro e w6 ⟨A6, k6, rfl, o6, hb6⟩
  have hr6 := o6.rb
  have hr5' := hr5.below hb6
  have hB6 := below_after hB5 hb6 (Nat.le_refl _)
  have i1 := (hb6.block _ hl5).trans g1
  have i2 := (hb6.block _ hl5').trans g2
  have y3 := x3.below hb6
  have y4 := x4.below hb6
  clear hb6 o6 hB5 hl5 hl5' g1 g2 x3 x4 hr5
  go_wp2_with (first
    | ((with_reducible refine at_slot 35 ?_); refine wpList_load_row rfl 28 (.tmp 3) rfl w3.heap.size rfl _ (p.cells dv) _ _ i1 Try.underlying28 rfl (info_pkt _ _) ?_)
    | ((with_reducible refine at_slot 36 ?_); refine wpList_load_row rfl 28 (.tmp 5) rfl w4.heap.size rfl _ (p.cells dv2) _ _ i2 Try.underlying28 rfl (info_pkt _ _) ?_))
  (with_reducible refine Calls.mono (HS.out _ _ _ y3 y4) ?_)
  rintro e w7 ⟨rfl, hb7⟩
  have hB7 := below_after hB6 hb7 (Nat.le_refl _)
  have r5 := conv_str (hr5'.below hb7)
  have r6 := conv_str (hr6.below hb7)
  clear hB6 hr5' hr6 hb7 y3 y4 i1 i2
  go_wp2_with fail
  refine Calls.mono (alive6_any _) ?_
  rintro e w8 ⟨rfl, hb8⟩
  go_wp2_with fail
  go_ret
  exact ⟨rfl, below_after hB7 hb8 (Nat.le_refl _)⟩
end Go.Proofs.Ytlijgcmcpehplaa
