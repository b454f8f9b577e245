/- Walk of the law IpfourTurned. -/
import Derived.Test.YtpcfgihomplehaaIpvE
import Derived.StillTailTactics
namespace Go.Proofs.Ytpcfgihomplehaa
set_option linter.unusedVariables false
set_option linter.unusedSimpArgs false
open Go.RowKit

set_option maxHeartbeats 4000000 in
theorem lawTurned4_any (p : Pkt) (dv : Value) (at_ : Int) (w : World) (hp : p.Ok) (hd : RB w dv p.load) (ha0 : -9223372036854775808 ≤ at_) (ha1 : at_ ≤ 9223372036854775807) :
    Calls Try.prog 6 #[p.v dv, .int .i64 at_] w fun e w' => e = .returned (.bool true) ∧ Below w.heap.size w w' := by
  have HF := hid fun W (h : RB W dv p.load) => far4_any dv p.load W h
  have HL := hid fun W (h : RB W dv p.load) => lay4_any p dv W hp h
  have HR := hid hd
  have hI := info_pkt p dv
  have hone := Pkt.one p dv hd.one
  have htu := parse4_turned p hp
  have hll := lay4_len p
  have hle := lay4_le p
  clear hd hp
  unfold BytesPost layR4 at HL
  unfold Pkt.v at *
  generalize farP4 p.load.length = fb at HF
  cases fb
  · by_cases hm : may4 p = true
    · have hlen := hll hm
      have htm := htu hm
      simp only [hm, if_true] at HL
      obtain ⟨m, hmlt, hme, hm3, hm4⟩ := modBack at_ 160 (by omega)
      obtain ⟨i, hi⟩ : ∃ i, i = m / 8 := ⟨_, rfl⟩
      obtain ⟨j, hj⟩ : ∃ q, q = m % 8 := ⟨_, rfl⟩
      have hj8 : j < 8 := by omega
      have hi20 : i < 20 := by omega
      have hti := htm i j hi20 hj8
      unfold turned4 at hti
      have hl20 : 20 ≤ (lay4 p).length := by omega
      have hl20' : decide ((lay4 p).length < 20) = false := decide_eq_false (by omega)
      have hl20'' : decide (((lay4 p).length : Int) < 20) = false := decide_eq_false (by omega)
      clear htm htu hll hlen hm
      generalize lay4 p = y at HL hle hti hl20 hl20' hl20''
      have HTI := hid hti
      clear hti
      go_enter Try.func6, Try.ntmps6
      go_step
      go_step
      go_step
      refine wpList_boxF rfl 28 (.tmp 0) rfl (p.cells dv) rfl ?_
      intro w1 h1 hb1 s1
      have hl1 : w.heap.size < w1.heap.size := by omega
      clear s1
      obtain ⟨c0, c1, c2, c3, c4, c5, c6, c7, c8⟩ := pkt_cells h1
      clear c0 c1 c2 c3 c4 c5 c6 c7
      go_wp2_with fail
      (with_reducible refine Calls.mono (HF.out _ (HR.out.below hb1)) ?_)
      rintro e w2 ⟨rfl, hb2⟩
      have h2 := (hb2.block _ hl1).trans h1
      have hB2 := below_after hb1 hb2 (Nat.le_refl _)
      have hl2 := Nat.lt_of_lt_of_le hl1 hb2.size
      clear hb1 hb2 h1 hl1 c8
      go_wp2_with (first
        | ((with_reducible refine at_slot 14 ?_); refine wpList_load_row rfl 28 (.tmp 2) rfl w.heap.size rfl _ (p.cells dv) _ _ h2 Try.underlying28 rfl hI ?_))
      (with_reducible refine Calls.mono (HL.out _ (HR.out.below hB2)) ?_)
      rintro e w3 ⟨A3, k3, rfl, o3, hb3⟩
      have h3 := (hb3.block _ hl2).trans h2
      have hB3 := below_after hB2 hb3 (Nat.le_refl _)
      have hl3 := Nat.lt_of_lt_of_le hl2 hb3.size
      obtain ⟨g, rfl, hg1, hg2, hne3⟩ := o3.blk (by omega)
      obtain ⟨s1, s2, s3⟩ := o3.store i (by omega)
      have S3 := hid s3
      clear hb3 hB2 h2 s3 hne3 o3
      go_wp2_with fail
      rw [hme]
      have k1 : (m : Int).tdiv 8 = (i : Int) := by rw [Int.tdiv_eq_ediv_of_nonneg (by omega)]; omega
      have k2 : (m : Int).tmod 8 = (j : Int) := by rw [Int.tmod_eq_emod_of_nonneg (by omega)]; omega
      have k3' : IntKind.i64.wrap (i : Int) = (i : Int) := IntWalk.i64_in _ (by omega)
      have k4 : IntKind.i64.wrap (j : Int) = (j : Int) := IntWalk.i64_in _ (by omega)
      have k5 : (i : Int) < (y.length : Int) := by omega
      have k6 : i < y.length := by omega
      have hgl : w.heap.size < g := Nat.lt_of_lt_of_le hl2 hg1
      generalize hX : y.getD i 0 = X at s1 HTI
      clear hX hi hj
      clear hme hm3 hm4 hmlt
      go_still_tail 10, (by kernel_rfl)
      change wpList _ _ _ _ _ w3.drew
      have s1 : w3.drew.cell? ⟨g, i, none⟩ = some (.int .u8 (X.toNat : Int)) := s1
      have s2 : w3.drew.frozen? ⟨g, i, none⟩ = false := s2
      have hB4 : Below w.heap.size w w3.drew := hB3.drew
      have h4 : w3.drew.heap[w.heap.size]? = some (.cells (p.cells dv) 28 (0, 0)) := h3
      have S4 : Hid (∀ (x : UInt8) (n' : Int), n' = (x.toNat : Int) → OB (w3.drew.setCell ⟨g, i, none⟩ (.int .u8 n')) w2.heap.size (.slice (some ⟨g, 0, none⟩) y.length k3) (y.set i x)) := S3
      clear S3 h3 hB3
      generalize w3.drew = w4 at s1 s2 hB4 h4 S4 ⊢
      obtain ⟨Y, hY⟩ : ∃ Y : UInt8, Y = UInt8.ofNat (X.toNat ^^^ 2 ^ j) := ⟨_, rfl⟩
      have hYn : (Y.toNat : Nat) = X.toNat ^^^ 2 ^ j := by rw [hY, UInt8.toNat_ofNat']; exact Nat.mod_eq_of_lt (xor_lt X j hj8)
      have hval : bits .xor .u8 (X.toNat : Int) (IntKind.u8.wrap (2 ^ j)) = (Y.toNat : Int) := by
        rw [IntKind.wrap_u8]
        have h1 : ((2 : Int) ^ j % 256) = ((2 ^ j : Nat) : Int) := by
          have := pow_cases j hj8
          rw [Int.natCast_pow]
          simp only [Int.cast_ofNat_Int]
          omega
        rw [h1, u8_xor_nat _ _ X.toNat_lt (by have := Nat.pow_lt_pow_right (a := 2) (by omega) hj8; omega), hYn]
      rw [← hY] at HTI
      have o5 := S4.out Y _ rfl
      have hB5 := hB4.setCell (p := ⟨g, i, none⟩) (by show w.heap.size ≤ g; omega) (.int .u8 (Y.toNat : Int))
      have h5 : (w4.setCell ⟨g, i, none⟩ (.int .u8 (Y.toNat : Int))).heap[w.heap.size]? = some (.cells (p.cells dv) 28 (0, 0)) := (rowSetCell_far (by omega) _ _).trans h4
      have hl5 : w.heap.size < (w4.setCell ⟨g, i, none⟩ (.int .u8 (Y.toNat : Int))).heap.size := (Array.getElem?_eq_some_iff.1 h5).1
      have HP := hid fun W u (h : RB W u (y.set i Y)) => parse4_any u (y.set i Y) W h (by rw [List.length_set]; omega)
      unfold ParPost4 at HP
      clear hYn hY S4 h4
      generalize parse4 (y.set i Y) = pr at HP HTI
      obtain ⟨q, e0⟩ := pr
      simp only at HP HTI
      unfold Pkt.v at HP
      generalize y.set i Y = y' at o5 HP
      have HV := hid hval
      have HV2 := hid (show bits .xor .u8 (X.toNat : Int) (2 ^ j % 256) = (Y.toNat : Int) by rw [IntKind.wrap_u8] at hval; exact hval)
      clear hval
      go_wp2_with fail
      rw [HV.out, HV2.out]
      generalize w4.setCell ⟨g, i, none⟩ (.int .u8 (Y.toNat : Int)) = w5 at o5 hB5 h5 hl5 ⊢
      have r5 := o5.rb
      clear s1 s2 hB4 o5 k1 k2 k3' k4 k5 k6
      (with_reducible refine Calls.mono (HP.out _ _ r5) ?_)
      rintro e w6 ⟨dq, rfl, r6, hb6⟩
      have h6 := (hb6.block _ hl5).trans h5
      have hl6 := Nat.lt_of_lt_of_le hl5 hb6.size
      have hB6 := below_after hB5 hb6 (Nat.le_refl _)
      clear hb6 h5 hl5 hB5 r5
      by_cases h0 : e0 = 0
      · subst h0
        have hne : p ≠ q := fun e => HTI.out (by rw [e])
        have hsp : sameP p q = false := by
          cases hs : sameP p q
          · rfl
          · exact absurd ((sameP_iff p q).1 hs) hne
        have HS := hid fun W u1 u2 (h : RB W u1 p.load) (h2 : RB W u2 q.load) => fsame_any p q u1 u2 W h h2
        rw [hsp] at HS
        unfold Pkt.v at HS
        clear hne hsp
        go_wp2_with (first
          | ((with_reducible refine at_slot 7 ?_); refine wpList_allocF rfl 28 rfl _ alloc_noPkt ?_; intro wa ha hba sa; clear sa)
          | ((with_reducible refine at_store 7 47 ?_); refine wpList_rowF rfl 28 (.tmp 7) (.tmp 47) rfl w6.heap.size 28 _ (q.cells dq) rfl rfl ha (info_pkt _ _) rfl (Pkt.one _ _ r6.one) ?_; intro w7 hbl7 mb7 sb7; clear sb7; have hv7 := mb7.below hba (Nat.le_refl _) (by simp); clear mb7 hba ha; have h7 := (hv7.block _ hl6).trans h6)
          | ((with_reducible refine at_slot 52 ?_); refine wpList_rowG rfl 28 (.tmp 2) rfl w.heap.size rfl _ (p.cells dv) _ h7 Try.underlying28 rfl hI ?_)
          | ((with_reducible refine at_slot 53 ?_); refine wpList_rowG rfl 28 (.tmp 7) rfl w6.heap.size rfl _ (q.cells dq) _ hbl7 Try.underlying28 rfl (info_pkt _ _) ?_))
        have hB7 := below_after hB6 hv7 (Nat.le_refl _)
        have r7 := r6.below hv7
        (with_reducible refine Calls.mono (HS.out _ _ _ (HR.out.below hB7) r7) ?_)
        rintro e w8 ⟨rfl, hb8⟩
        have hB8 := below_after hB7 hb8 (Nat.le_refl _)
        clear hB6 hB7 hb8 r6 r7 hv7 h6 h7 hbl7
        go_wp2_with fail
        refine Calls.mono (alive4_any _) ?_
        rintro e w9 ⟨rfl, hb9⟩
        go_wp2_with fail
        go_ret
        exact ⟨rfl, below_after hB8 hb9 (Nat.le_refl _)⟩
      · have n1 : (e0 != 0) = true := by simpa using h0
        have n2 : decide (e0 = 0) = false := decide_eq_false h0
        clear h0
        go_wp2_with (first
          | ((with_reducible refine at_slot 7 ?_); refine wpList_allocF rfl 28 rfl _ alloc_noPkt ?_; intro wa ha hba sa; clear sa)
          | ((with_reducible refine at_store 7 47 ?_); refine wpList_rowF rfl 28 (.tmp 7) (.tmp 47) rfl w6.heap.size 28 _ (q.cells dq) rfl rfl ha (info_pkt _ _) rfl (Pkt.one _ _ r6.one) ?_; intro w7 hbl7 mb7 sb7; clear sb7; have hv7 := mb7.below hba (Nat.le_refl _) (by simp); clear mb7 hba ha))
        refine Calls.mono (alive4_any _) ?_
        rintro e w9 ⟨rfl, hb9⟩
        go_wp2_with fail
        go_ret
        exact ⟨rfl, below_after (below_after hB6 hv7 (Nat.le_refl _)) hb9 (Nat.le_refl _)⟩
    · have hm := Bool.eq_false_iff.2 hm
      have hno : lay4 p = [] := by unfold lay4; rw [hm]; rfl
      simp only [hm, Bool.false_eq_true, if_false] at HL
      rw [hno] at HL
      clear hno htu hll hle hm
      go_enter Try.func6, Try.ntmps6
      go_step
      go_step
      go_step
      refine wpList_boxF rfl 28 (.tmp 0) rfl (p.cells dv) rfl ?_
      intro w1 h1 hb1 s1
      have hl1 : w.heap.size < w1.heap.size := by omega
      clear s1
      obtain ⟨c0, c1, c2, c3, c4, c5, c6, c7, c8⟩ := pkt_cells h1
      clear c0 c1 c2 c3 c4 c5 c6 c7
      go_wp2_with fail
      (with_reducible refine Calls.mono (HF.out _ (HR.out.below hb1)) ?_)
      rintro e w2 ⟨rfl, hb2⟩
      have h2 := (hb2.block _ hl1).trans h1
      have hB2 := below_after hb1 hb2 (Nat.le_refl _)
      clear hb1 hb2 h1 hl1 c8
      go_wp2_with (first
        | ((with_reducible refine at_slot 14 ?_); refine wpList_load_row rfl 28 (.tmp 2) rfl w.heap.size rfl _ (p.cells dv) _ _ h2 Try.underlying28 rfl hI ?_))
      (with_reducible refine Calls.mono (HL.out _ (HR.out.below hB2)) ?_)
      rintro e w3 ⟨A3, k3, rfl, o3, hb3⟩
      have hB3 := below_after hB2 hb3 (Nat.le_refl _)
      clear hb3 hB2 h2 o3
      go_wp2_with fail
      refine Calls.mono (alive4_any _) ?_
      rintro e w5 ⟨rfl, hb5⟩
      go_wp2_with fail
      go_ret
      exact ⟨rfl, below_after hB3 hb5 (Nat.le_refl _)⟩
  · go_enter Try.func6, Try.ntmps6
    go_step
    go_step
    go_step
    refine wpList_boxF rfl 28 (.tmp 0) rfl (p.cells dv) rfl ?_
    intro w1 h1 hb1 s1
    clear s1
    obtain ⟨c0, c1, c2, c3, c4, c5, c6, c7, c8⟩ := pkt_cells h1
    go_wp2_with fail
    (with_reducible refine Calls.mono (HF.out _ (HR.out.below hb1)) ?_)
    rintro e w2 ⟨rfl, hb2⟩
    clear c0 c1 c2 c3 c4 c5 c6 c7 c8
    go_wp2_with fail
    refine Calls.mono (alive4_any _) ?_
    rintro e w3 ⟨rfl, hb3⟩
    go_wp2_with fail
    go_ret
    exact ⟨rfl, below_after (below_after hb1 hb2 (Nat.le_refl _)) hb3 (Nat.le_refl _)⟩
end Go.Proofs.Ytpcfgihomplehaa
