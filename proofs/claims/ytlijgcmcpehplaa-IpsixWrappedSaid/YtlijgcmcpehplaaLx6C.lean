/- Walk of the law IpsixWrapped. -/
import Derived.Test.YtlijgcmcpehplaaLx6P
namespace Go.Proofs.Ytlijgcmcpehplaa
set_option linter.unusedVariables false
set_option linter.unusedSimpArgs false
open Go.RowKit

set_option maxHeartbeats 4000000 in
theorem lawWrapped6_any (v u : Value) (b load : List UInt8) (next : UInt8) (w : World) (hx : RB w v b) (hy : RB w u load) :
    Calls Try.prog 6 #[v, .int .u8 (next.toNat : Int), u] w fun e w' => e = .returned (.bool true) ∧ Below w.heap.size w w' := by
  have HX := hid hx
  have HY := hid hy
  obtain ⟨Au, cu, rfl, hru⟩ := hy
  obtain ⟨A, c, rfl, hr⟩ := hx
  clear hr hru
  by_cases hl : 3000 < b.length
  · have d1 : decide (3000 < b.length) = true := decide_eq_true hl
    have d2 : decide ((3000 : Int) < (b.length : Int)) = true := decide_eq_true (by omega)
    go_enter Try.func6, Try.ntmps6
    go_wp2_with fail
    refine Calls.mono (alive6_any _) ?_
    rintro e w3 ⟨rfl, hb3⟩
    go_wp2_with fail
    go_ret
    exact ⟨rfl, hb3⟩
  have d1 : decide (3000 < b.length) = false := decide_eq_false hl
  have d2 : decide ((3000 : Int) < (b.length : Int)) = false := decide_eq_false (by omega)
  by_cases hl2 : 3000 < load.length
  · have d3 : decide (3000 < load.length) = true := decide_eq_true hl2
    have d4 : decide ((3000 : Int) < (load.length : Int)) = true := decide_eq_true (by omega)
    go_enter Try.func6, Try.ntmps6
    go_wp2_with fail
    refine Calls.mono (alive6_any _) ?_
    rintro e w3 ⟨rfl, hb3⟩
    go_wp2_with fail
    go_ret
    exact ⟨rfl, hb3⟩
  have d3 : decide (3000 < load.length) = false := decide_eq_false hl2
  have d4 : decide ((3000 : Int) < (load.length : Int)) = false := decide_eq_false (by omega)
  have HW := hid fun W (h : Below w.heap.size w W) => wrap6_any _ _ b load next W (HX.out.below h) (HY.out.below h) (by omega) (by omega)
  have HP := hid fun W (h : Below w.heap.size w W) => parse6_any _ b W (HX.out.below h) (by omega)
  have hok := wrap6_ok b next load
  have hno := wrap6_no b next load
  unfold BytesPost at HW
  unfold ParPost at HP
  generalize wrap6 b next load = r at HW hok hno
  obtain ⟨q, e0⟩ := r
  simp only at HW hok hno
  by_cases he : e0 = 0
  · subst he
    obtain ⟨k1, k2, k3⟩ := hok rfl
    have hpe := parse6_eq b k1
    have HP2 := hid fun W u (h : RB W u q) => parse6_any u q W h (by omega)
    unfold ParPost at HP2
    rw [k2] at HP2
    rw [hpe] at HP HP2
    generalize (parse6 b).1 = p at HP HP2
    simp only at HP HP2
    have HS := hid fun W u1 u2 (h : RB W u1 p.load) (h2 : RB W u2 p.load) => same_any p p u1 u2 W h h2
    rw [sameP_self] at HS
    have t1 : decide (q.length = b.length + load.length + 2) = true := decide_eq_true k3
    have t2 : decide ((q.length : Int) = (b.length : Int) + (load.length : Int) + 2) = true := decide_eq_true (by omega)
    unfold Pkt.v at *
    clear hok hno k1 k2 k3 hpe HX HY
    go_enter Try.func6, Try.ntmps6
    go_wp2_with fail
    (with_reducible refine Calls.mono (HW.out _ (Below.refl _ _)) ?_)
    rintro e w2 ⟨A2, c2, rfl, o2, hb2⟩
    have hr2 := o2.rb
    clear o2
    go_wp2_with fail
    (with_reducible refine Calls.mono (HP.out _ hb2) ?_)
    rintro e w3 ⟨dv, rfl, hr3, hb3⟩
    have hs2 := hr2.below hb3
    clear hr2
    go_wp2_with (first
      | ((with_reducible refine at_slot 9 ?_); refine wpList_allocF rfl 28 rfl _ alloc_noPkt ?_; intro wa3 ha3 hba3 sa3; clear sa3)
      | ((with_reducible refine at_store 9 40 ?_); refine wpList_rowF rfl 28 (.tmp 9) (.tmp 40) rfl w3.heap.size 28 _ (p.cells dv) rfl rfl ha3 (info_pkt _ _) rfl (Pkt.one _ _ hr3.one) ?_; intro wb3 hbl3 mb3 sb3; clear sb3))
    have hv3 := mb3.below hba3 (Nat.le_refl _) (by simp)
    have hlt3 : w3.heap.size < wb3.heap.size := (Array.getElem?_eq_some_iff.1 hbl3).1
    clear mb3 hba3 ha3
    have hB3 := below_after hb2 (below_after hb3 hv3 (Nat.le_refl _)) (Nat.le_refl _)
    have hr3' := hr3.below hv3
    have ht2 := hs2.below hv3
    clear hv3 hr3 hb3 hb2 hs2
    (with_reducible refine Calls.mono (HP2.out _ _ ht2) ?_)
    rintro e w4 ⟨dv2, rfl, hr4, hb4⟩
    go_wp2_with (first
      | ((with_reducible refine at_slot 11 ?_); refine wpList_allocF rfl 28 rfl _ alloc_noPkt ?_; intro wa4 ha4 hba4 sa4; clear sa4)
      | ((with_reducible refine at_store 11 45 ?_); refine wpList_rowF rfl 28 (.tmp 11) (.tmp 45) rfl w4.heap.size 28 _ (p.cells dv2) rfl rfl ha4 (info_pkt _ _) rfl (Pkt.one _ _ hr4.one) ?_; intro wb4 hbl4 mb4 sb4; clear sb4; have hv4 := mb4.below hba4 (Nat.le_refl _) (by simp); clear mb4 hba4 ha4; have h3 := (hv4.block _ (Nat.lt_of_lt_of_le hlt3 hb4.size)).trans ((hb4.block _ hlt3).trans hbl3))
      | ((with_reducible refine at_slot 54 ?_); refine wpList_rowG rfl 28 (.tmp 9) rfl w3.heap.size rfl _ (p.cells dv) _ h3 Try.underlying28 rfl (info_pkt _ _) ?_)
      | ((with_reducible refine at_slot 55 ?_); refine wpList_rowG rfl 28 (.tmp 11) rfl w4.heap.size rfl _ (p.cells dv2) _ hbl4 Try.underlying28 rfl (info_pkt _ _) ?_))
    have hB4 := below_after hB3 (below_after hb4 hv4 (Nat.le_refl _)) (Nat.le_refl _)
    have hr3 := (hr3'.below hb4).below hv4
    have hr4' := hr4.below hv4
    clear hv4 hr4 hb4 hB3 hr3' hbl3 hlt3
    (with_reducible refine Calls.mono (HS.out _ _ _ hr3 hr4') ?_)
    rintro e w5 ⟨rfl, hb5⟩
    have hB5 := below_after hB4 hb5 (Nat.le_refl _)
    clear hB4 hb5 hr3 hr4' h3 hbl4
    go_wp2_with fail
    refine Calls.mono (alive6_any _) ?_
    rintro e w6 ⟨rfl, hb6⟩
    go_wp2_with fail
    go_ret
    exact ⟨rfl, below_after hB5 hb6 (Nat.le_refl _)⟩
    exact absurd (of_decide_eq_true t2) (by assumption)
  · obtain rfl : q = [] := hno he
    have n1 : (e0 != 0) = true := by simpa using he
    have n2 : decide (e0 = 0) = false := decide_eq_false he
    clear hok hno he HX HY HP
    go_enter Try.func6, Try.ntmps6
    go_wp2_with fail
    (with_reducible refine Calls.mono (HW.out _ (Below.refl _ _)) ?_)
    rintro e w2 ⟨A2, c2, rfl, o2, hb2⟩
    clear o2
    go_wp2_with fail
    refine Calls.mono (alive6_any _) ?_
    rintro e w6 ⟨rfl, hb6⟩
    go_wp2_with fail
    go_ret
    exact ⟨rfl, below_after hb2 hb6 (Nat.le_refl _)⟩
end Go.Proofs.Ytlijgcmcpehplaa
