/- Walk of the law IpfourBack. -/
import Derived.Test.YtpcfgihomplehaaIpvE
namespace Go.Proofs.Ytpcfgihomplehaa
set_option linter.unusedVariables false
set_option linter.unusedSimpArgs false
open Go.RowKit

set_option maxHeartbeats 4000000 in
theorem lawBack4_any (p : Pkt) (dv v : Value) (z : List UInt8) (w : World) (hp : p.Ok) (hd : RB w dv p.load) (hz : RB w v z) :
    Calls Try.prog 4 #[p.v dv, v] w fun e w' => e = .returned (.bool true) ∧ Below w.heap.size w w' := by
  have HF := hid fun W (h : RB W dv p.load) => far4_any dv p.load W h
  have HL := hid fun W (h : RB W dv p.load) => lay4_any p dv W hp h
  have HM := hid fun W (h : RB W dv p.load) => may4_any p dv W hp h
  have HR := hid hd
  have HZ := hid hz
  have hI := info_pkt p dv
  have hone := Pkt.one p dv hd.one
  have hpar := parse4_lay p hp
  have hmay := may4_iff p
  clear hd hp
  obtain ⟨Az, cz, rfl, hz0⟩ := hz
  clear hz0
  unfold BytesPost layR4 at HL
  unfold Pkt.v at *
  generalize farP4 p.load.length = fb at HF
  cases fb
  · by_cases hl : 2000 < z.length
    · have d1 : decide (2000 < z.length) = true := decide_eq_true hl
      have d2 : decide ((2000 : Int) < (z.length : Int)) = true := decide_eq_true (by omega)
      go_enter Try.func4, Try.ntmps4
      go_step
      go_step
      go_step
      refine wpList_boxF rfl 28 (.tmp 0) rfl (p.cells dv) rfl ?_
      intro w1 h1 hb1 s1
      clear s1
      obtain ⟨c0, c1, c2, c3, c4, c5, c6, c7, c8⟩ := pkt_cells h1
      go_wp2_with fail
      (with_reducible refine Calls.mono (HF.out _ (HR.out.below hb1)) ?_)
      rintro e w2 ⟨rfl, hb2⟩
      clear c0 c1 c2 c3 c4 c5 c6 c7 c8
      go_wp2_with fail
      refine Calls.mono (alive4_any _) ?_
      rintro e w3 ⟨rfl, hb3⟩
      go_wp2_with fail
      go_ret
      exact ⟨rfl, below_after (below_after hb1 hb2 (Nat.le_refl _)) hb3 (Nat.le_refl _)⟩
    have d1 : decide (2000 < z.length) = false := decide_eq_false hl
    have d2 : decide ((2000 : Int) < (z.length : Int)) = false := decide_eq_false (by omega)
    by_cases hm : may4 p = true
    · have hlen : (lay4 p).length ≤ 70000 := Nat.le_trans (lay4_le p) (by decide)
      have hpz := hpar hm z
      obtain ⟨Z, hZ⟩ : ∃ Z, lay4 p ++ z = Z := ⟨_, rfl⟩
      have hZl : Z.length = (lay4 p).length + z.length := by rw [← hZ, List.length_append]
      have HZe := hid hZ
      rw [hZ] at hpz
      simp only [hm, if_true] at HL HM
      have HP2 := hid fun W u (h : RB W u Z) => parse4_any u Z W h (by omega)
      unfold ParPost4 at HP2
      rw [hpz] at HP2
      simp only at HP2
      have HS := hid fun W u1 u2 (h : RB W u1 p.load) (h2 : RB W u2 p.load) => fsame_any p p u1 u2 W h h2
      rw [sameP_self] at HS
      unfold Pkt.v at *
      clear hZ hpz hpar hmay hZl
      generalize lay4 p = y at HL hlen HZe
      go_enter Try.func4, Try.ntmps4
      go_step
      go_step
      go_step
      refine wpList_boxF rfl 28 (.tmp 0) rfl (p.cells dv) rfl ?_
      intro w1 h1 hb1 s1
      have hl1 : w.heap.size < w1.heap.size := by omega
      clear s1
      obtain ⟨c0, c1, c2, c3, c4, c5, c6, c7, c8⟩ := pkt_cells h1
      go_wp2_with fail
      (with_reducible refine Calls.mono (HF.out _ (HR.out.below hb1)) ?_)
      rintro e w2 ⟨rfl, hb2⟩
      have h2 := (hb2.block _ hl1).trans h1
      have hB2 := below_after hb1 hb2 (Nat.le_refl _)
      have hl2 := Nat.lt_of_lt_of_le hl1 hb2.size
      clear hb1 hb2 h1 hl1 c0 c1 c2 c3 c4 c5 c6 c7 c8
      go_wp2_with (first
        | ((with_reducible refine at_slot 19 ?_); refine wpList_load_row rfl 28 (.tmp 2) rfl w.heap.size rfl _ (p.cells dv) _ _ h2 Try.underlying28 rfl hI ?_))
      (with_reducible refine Calls.mono (HL.out _ (HR.out.below hB2)) ?_)
      rintro e w3 ⟨A3, k3, rfl, o3, hb3⟩
      have h3 := (hb3.block _ hl2).trans h2
      have hB3 := below_after hB2 hb3 (Nat.le_refl _)
      have hl3 := Nat.lt_of_lt_of_le hl2 hb3.size
      have hle3 := hb3.size
      have hz3 := HZ.out.below hB3
      clear hb3 hB2 h2
      go_wp2_with (first
        | ((with_reducible refine at_slot 39 ?_); refine append_u8 (.tmp 37) (.tmp 38) w2.heap.size y z Z HZe.out rfl rfl rfl rfl o3 hz3 (by omega) hle3 ?_; intro A4 k4 w4 o4 hb4 _ _))
      have hB4 := hB3.trans (hb4.mono (Nat.le_of_lt hl2))
      have h4 := (hb4.block _ hl2).trans h3
      have hl4 := Nat.lt_of_lt_of_le hl3 hb4.size
      have hr4 := o4.rb
      clear hb4 hB3 h3 hl3 o3 hz3 o4 hle3 hl2
      (with_reducible refine Calls.mono (HP2.out _ _ hr4) ?_)
      rintro e w5 ⟨dv2, rfl, hr5, hb5⟩
      have h5 := (hb5.block _ hl4).trans h4
      have hB5 := below_after hB4 hb5 (Nat.le_refl _)
      have hl5 := Nat.lt_of_lt_of_le hl4 hb5.size
      clear hb5 hB4 h4 hl4 hr4
      go_wp2_with (first
        | ((with_reducible refine at_slot 7 ?_); refine wpList_allocF rfl 28 rfl _ alloc_noPkt ?_; intro wa3 ha3 hba3 sa3; clear sa3)
        | ((with_reducible refine at_store 7 41 ?_); refine wpList_rowF rfl 28 (.tmp 7) (.tmp 41) rfl w5.heap.size 28 _ (p.cells dv2) rfl rfl ha3 (info_pkt _ _) rfl (Pkt.one _ _ hr5.one) ?_; intro w6 hbl6 mb3 sb3; clear sb3; have hv6 := mb3.below hba3 (Nat.le_refl _) (by simp); clear mb3 hba3 ha3; have h6 := (hv6.block _ hl5).trans h5)
        | ((with_reducible refine at_slot 46 ?_); refine wpList_rowG rfl 28 (.tmp 2) rfl w.heap.size rfl _ (p.cells dv) _ h6 Try.underlying28 rfl (info_pkt _ _) ?_)
        | ((with_reducible refine at_slot 47 ?_); refine wpList_rowG rfl 28 (.tmp 7) rfl w5.heap.size rfl _ (p.cells dv2) _ hbl6 Try.underlying28 rfl (info_pkt _ _) ?_))
      have hB6 := below_after hB5 hv6 (Nat.le_refl _)
      have hr6 := hr5.below hv6
      clear hv6 h5 hB5 hl5 hr5
      (with_reducible refine Calls.mono (HS.out _ _ _ (HR.out.below hB6) hr6) ?_)
      rintro e w7 ⟨rfl, hb7⟩
      have hB7 := below_after hB6 hb7 (Nat.le_refl _)
      clear hB6 hr6 hb7 h6 hbl6
      go_wp2_with fail
      refine Calls.mono (alive4_any _) ?_
      rintro e w8 ⟨rfl, hb8⟩
      go_wp2_with fail
      go_ret
      exact ⟨rfl, below_after hB7 hb8 (Nat.le_refl _)⟩
    · have hm := Bool.eq_false_iff.2 hm
      have hno : lay4 p = [] := by unfold lay4; rw [hm]; rfl
      simp only [hm, Bool.false_eq_true, if_false] at HL HM
      rw [hno] at HL
      clear hno
      clear hpar hmay
      go_enter Try.func4, Try.ntmps4
      go_step
      go_step
      go_step
      refine wpList_boxF rfl 28 (.tmp 0) rfl (p.cells dv) rfl ?_
      intro w1 h1 hb1 s1
      have hl1 : w.heap.size < w1.heap.size := by omega
      clear s1
      obtain ⟨c0, c1, c2, c3, c4, c5, c6, c7, c8⟩ := pkt_cells h1
      go_wp2_with fail
      (with_reducible refine Calls.mono (HF.out _ (HR.out.below hb1)) ?_)
      rintro e w2 ⟨rfl, hb2⟩
      have h2 := (hb2.block _ hl1).trans h1
      have hB2 := below_after hb1 hb2 (Nat.le_refl _)
      have hl2 := Nat.lt_of_lt_of_le hl1 hb2.size
      clear hb1 hb2 h1 hl1 c0 c1 c2 c3 c4 c5 c6 c7 c8
      go_wp2_with (first
        | ((with_reducible refine at_slot 19 ?_); refine wpList_load_row rfl 28 (.tmp 2) rfl w.heap.size rfl _ (p.cells dv) _ _ h2 Try.underlying28 rfl hI ?_))
      (with_reducible refine Calls.mono (HL.out _ (HR.out.below hB2)) ?_)
      rintro e w3 ⟨A3, k3, rfl, o3, hb3⟩
      have h3 := (hb3.block _ hl2).trans h2
      have hB3 := below_after hB2 hb3 (Nat.le_refl _)
      clear hb3 hB2 h2 hl2 o3
      go_wp2_with (first
        | ((with_reducible refine at_slot 29 ?_); refine wpList_rowG rfl 28 (.tmp 2) rfl w.heap.size rfl _ (p.cells dv) _ h3 Try.underlying28 rfl hI ?_))
      (with_reducible refine Calls.mono (HM.out _ (HR.out.below hB3)) ?_)
      rintro e w4 ⟨rfl, hb4⟩
      have hB4 := below_after hB3 hb4 (Nat.le_refl _)
      clear hb4 hB3 h3
      go_wp2_with fail
      refine Calls.mono (alive4_any _) ?_
      rintro e w5 ⟨rfl, hb5⟩
      go_wp2_with fail
      go_ret
      exact ⟨rfl, below_after hB4 hb5 (Nat.le_refl _)⟩
  · go_enter Try.func4, Try.ntmps4
    go_step
    go_step
    go_step
    refine wpList_boxF rfl 28 (.tmp 0) rfl (p.cells dv) rfl ?_
    intro w1 h1 hb1 s1
    clear s1
    obtain ⟨c0, c1, c2, c3, c4, c5, c6, c7, c8⟩ := pkt_cells h1
    go_wp2_with fail
    (with_reducible refine Calls.mono (HF.out _ (HR.out.below hb1)) ?_)
    rintro e w2 ⟨rfl, hb2⟩
    clear c0 c1 c2 c3 c4 c5 c6 c7 c8
    go_wp2_with fail
    refine Calls.mono (alive4_any _) ?_
    rintro e w3 ⟨rfl, hb3⟩
    go_wp2_with fail
    go_ret
    exact ⟨rfl, below_after (below_after hb1 hb2 (Nat.le_refl _)) hb3 (Nat.le_refl _)⟩
end Go.Proofs.Ytpcfgihomplehaa
