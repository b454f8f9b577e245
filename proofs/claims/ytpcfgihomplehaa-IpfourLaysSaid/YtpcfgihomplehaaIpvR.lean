/- Walk: the law IpfourLays. -/
import Derived.Test.YtpcfgihomplehaaIpvE
import Derived.Test.YtpcfgihomplehaaIpvC
namespace Go.Proofs.Ytpcfgihomplehaa
set_option linter.unusedVariables false
set_option linter.unusedSimpArgs false
open Go.RowKit

set_option maxHeartbeats 4000000 in
theorem lawLays4_any (p q : Pkt) (dv du : Value) (w : World) (hp : p.Ok) (hd : RB w dv p.load) (hq : q.Ok) (he : RB w du q.load) :
    Calls Try.prog 3 #[p.v dv, q.v du] w fun e w' => e = .returned (.bool true) ∧ Below w.heap.size w w' := by
  have HF := hid fun W (h : RB W dv p.load) => far4_any dv p.load W h
  have HF2 := hid fun W (h : RB W du q.load) => far4_any du q.load W h
  have HL := hid fun W (h : RB W dv p.load) => lay4_any p dv W hp h
  have HRL := hid fun W (h : RB W dv p.load) => rlay4_any p dv W hp h
  have HM := hid fun W (h : RB W dv p.load) => may4_any p dv W hp h
  have HRM := hid fun W (h : RB W dv p.load) => rmay4_any p dv W hp h
  have HS := hid fun W (h : RB W dv p.load) (h2 : RB W du q.load) => fsame_any p q dv du W h h2
  have HRS := hid fun W (h : RB W dv p.load) (h2 : RB W du q.load) => same_any p q dv du W h h2
  have HSS := hid fun W (h : RB W dv p.load) => fsame_any p p dv dv W h h
  rw [sameP_self] at HSS
  have HR := hid hd
  have HQ := hid he
  unfold BytesPost at HL HRL
  generalize layR4 p = la at HL HRL
  obtain ⟨b, be⟩ := la
  generalize may4 p = mb at HM HRM
  generalize sameP p q = sb at HS HRS
  generalize farP4 p.load.length = fb at HF
  generalize farP4 q.load.length = fc at HF2
  simp only at HL HRL
  have hI := info_pkt p dv
  have hJ := info_pkt q du
  have hone := Pkt.one p dv hd.one
  have hone2 := Pkt.one q du he.one
  clear hd hp hq he
  unfold Pkt.v at *
  go_enter Try.func3, Try.ntmps3
  go_step
  go_step
  go_step
  refine wpList_boxF rfl 28 (.tmp 0) rfl (p.cells dv) rfl ?_
  intro wa ha hba sa
  have hla : w.heap.size < wa.heap.size := by omega
  clear sa
  refine wpList_boxF rfl 28 (.tmp 1) rfl (q.cells du) rfl ?_
  intro w1 hq1 hb1' s1
  have h1 := (hb1'.block _ hla).trans ha
  have hb1 := below_after hba hb1' (Nat.le_refl _)
  have hl1 : w.heap.size < w1.heap.size := Nat.lt_of_lt_of_le hla hb1'.size
  have hm1 : wa.heap.size < w1.heap.size := by omega
  clear s1 ha hba hb1'
  generalize wa.heap.size = gq at *
  obtain ⟨c0, c1, c2, c3, c4, c5, c6, c7, c8⟩ := pkt_cells h1
  clear c0 c1 c2 c3 c4 c5 c6 c7
  cases fb
  · go_wp2_with fail
    (with_reducible refine Calls.mono (HF.out _ (HR.out.below hb1)) ?_)
    rintro e w2 ⟨rfl, hb2⟩
    have h2 := (hb2.block _ hl1).trans h1
    have hq2 := (hb2.block _ hm1).trans hq1
    have hB2 := below_after hb1 hb2 (Nat.le_refl _)
    have hl2 := Nat.lt_of_lt_of_le hl1 hb2.size
    have hm2 := Nat.lt_of_lt_of_le hm1 hb2.size
    clear hb1 hb2 h1 hq1 hl1 hm1 c8
    obtain ⟨c0, c1, c2, c3, c4, c5, c6, c7, c8⟩ := pkt_cells hq2
    clear c0 c1 c2 c3 c4 c5 c6 c7
    go_wp2_with fail
    (with_reducible refine Calls.mono (HF2.out _ (HQ.out.below hB2)) ?_)
    rintro e w3 ⟨rfl, hb3⟩
    have h3 := (hb3.block _ hl2).trans h2
    have hq3 := (hb3.block _ hm2).trans hq2
    have hB3 := below_after hB2 hb3 (Nat.le_refl _)
    have hl3 := Nat.lt_of_lt_of_le hl2 hb3.size
    have hm3 := Nat.lt_of_lt_of_le hm2 hb3.size
    clear hB2 hb3 h2 hq2 hl2 hm2 c8
    cases fc
    · go_wp2_with (first
        | ((with_reducible refine at_slot 19 ?_); refine wpList_load_row rfl 28 (.tmp 2) rfl w.heap.size rfl _ (p.cells dv) _ _ h3 Try.underlying28 rfl hI ?_))
      (with_reducible refine Calls.mono (HL.out _ (HR.out.below hB3)) ?_)
      rintro e w4 ⟨A4, k4, rfl, o4, hb4⟩
      have h4 := (hb4.block _ hl3).trans h3
      have hq4 := (hb4.block _ hm3).trans hq3
      have hB4 := below_after hB3 hb4 (Nat.le_refl _)
      have hl4 := Nat.lt_of_lt_of_le hl3 hb4.size
      have hm4 := Nat.lt_of_lt_of_le hm3 hb4.size
      have hr4 := o4.rb
      clear hb4 hB3 h3 hq3 hl3 hm3 o4
      go_wp2_with (first
        | ((with_reducible refine at_slot 24 ?_); refine wpList_load_row rfl 28 (.tmp 2) rfl w.heap.size rfl _ (p.cells dv) _ _ h4 Try.underlying28 rfl hI ?_))
      (with_reducible refine Calls.mono (HRL.out _ (HR.out.below hB4)) ?_)
      rintro e w5 ⟨A5, k5, rfl, o5, hb5⟩
      have h5 := (hb5.block _ hl4).trans h4
      have hq5 := (hb5.block _ hm4).trans hq4
      have hB5 := below_after hB4 hb5 (Nat.le_refl _)
      have hl5 := Nat.lt_of_lt_of_le hl4 hb5.size
      have hm5 := Nat.lt_of_lt_of_le hm4 hb5.size
      have hr5 := o5.rb
      have hs4 := hr4.below hb5
      clear hb5 hB4 h4 hq4 hl4 hm4 o5 hr4
      go_wp2_with fail
      refine wp_region_later w5.heap.size (Nat.le_refl _) (by kernel_rfl) (by kernel_rfl) ?_
      have r4 := fun x : Later w5.heap.size w5 => conv_str (hs4.below x.ok)
      have r5 := fun x : Later w5.heap.size w5 => conv_str (hr5.below x.ok)
      have D0 := hid fun x : Later w5.heap.size w5 => HR.out.below (hB5.trans (x.ok.mono (Nat.le_of_lt (Nat.lt_of_le_of_lt (Nat.le_refl _) hl5))))
      have D1 := hid fun x : Later w5.heap.size w5 => HQ.out.below (hB5.trans (x.ok.mono (Nat.le_of_lt (Nat.lt_of_le_of_lt (Nat.le_refl _) hl5))))
      have b5 := fun x : Later w5.heap.size w5 => x.blk h5 hl5
      have bq := fun x : Later w5.heap.size w5 => x.blk hq5 hm5
      clear h5 hq5 hs4 hr5
      repeat (first
        | ((with_reducible refine atq_slot 39 ?_); refine wpQuiet_row (by rfl) 28 (.tmp 2) rfl ⟨w.heap.size, 0, none⟩ rfl (p.cells dv) _ (row_later b5) Try.underlying28 rfl hI ?_; simp only [Act.put, List.setIfInBounds_toArray, List.set_cons_zero, List.set_cons_succ])
        | ((with_reducible refine atq_slot 41 ?_); refine wpQuiet_row (by rfl) 28 (.tmp 2) rfl ⟨w.heap.size, 0, none⟩ rfl (p.cells dv) _ (row_later b5) Try.underlying28 rfl hI ?_; simp only [Act.put, List.setIfInBounds_toArray, List.set_cons_zero, List.set_cons_succ])
        | ((with_reducible refine atq_slot 46 ?_); refine wpQuiet_row (by rfl) 28 (.tmp 2) rfl ⟨w.heap.size, 0, none⟩ rfl (p.cells dv) _ (row_later b5) Try.underlying28 rfl hI ?_; simp only [Act.put, List.setIfInBounds_toArray, List.set_cons_zero, List.set_cons_succ])
        | ((with_reducible refine atq_slot 49 ?_); refine wpQuiet_row (by rfl) 28 (.tmp 2) rfl ⟨w.heap.size, 0, none⟩ rfl (p.cells dv) _ (row_later b5) Try.underlying28 rfl hI ?_; simp only [Act.put, List.setIfInBounds_toArray, List.set_cons_zero, List.set_cons_succ])
        | ((with_reducible refine atq_slot 55 ?_); refine wpQuiet_row (by rfl) 28 (.tmp 2) rfl ⟨w.heap.size, 0, none⟩ rfl (p.cells dv) _ (row_later b5) Try.underlying28 rfl hI ?_; simp only [Act.put, List.setIfInBounds_toArray, List.set_cons_zero, List.set_cons_succ])
        | ((with_reducible refine atq_slot 56 ?_); refine wpQuiet_row (by rfl) 28 (.tmp 2) rfl ⟨w.heap.size, 0, none⟩ rfl (p.cells dv) _ (row_later b5) Try.underlying28 rfl hI ?_; simp only [Act.put, List.setIfInBounds_toArray, List.set_cons_zero, List.set_cons_succ])
        | ((with_reducible refine atq_slot 47 ?_); refine wpQuiet_row (by rfl) 28 (.tmp 3) rfl ⟨gq, 0, none⟩ rfl (q.cells du) _ (row_later bq) Try.underlying28 rfl hJ ?_; simp only [Act.put, List.setIfInBounds_toArray, List.set_cons_zero, List.set_cons_succ])
        | ((with_reducible refine atq_slot 50 ?_); refine wpQuiet_row (by rfl) 28 (.tmp 3) rfl ⟨gq, 0, none⟩ rfl (q.cells du) _ (row_later bq) Try.underlying28 rfl hJ ?_; simp only [Act.put, List.setIfInBounds_toArray, List.set_cons_zero, List.set_cons_succ])
        | go_big_quiet_step (first
          | (go_at_call 11; with_reducible exact quiet_later _ (Nat.le_refl _) (HM.out _ (D0.out _)))
          | (go_at_call 12; with_reducible exact quiet_later _ (Nat.le_refl _) (HRM.out _ (D0.out _)))
          | (go_at_call 13; with_reducible exact quiet_later _ (Nat.le_refl _) (HS.out _ (D0.out _) (D1.out _)))
          | (go_at_call 14; with_reducible exact quiet_later _ (Nat.le_refl _) (HRS.out _ (D0.out _) (D1.out _)))
          | (go_at_call 13; with_reducible exact quiet_later _ (Nat.le_refl _) (HSS.out _ (D0.out _)))
          | (go_at_call 8; exact quiet_later _ (Nat.le_refl _) (alive4_any _))))
      refine wpQuiet_nil ?_
      rintro _ ⟨x, rfl⟩
      go_wp2_with fail
      go_ret
      exact ⟨rfl, hB5.trans (x.ok.mono (Nat.le_of_lt hl5))⟩
    · go_wp2_with fail
      refine Calls.mono (alive4_any _) ?_
      rintro e w4 ⟨rfl, hb4⟩
      go_wp2_with fail
      go_ret
      exact ⟨rfl, below_after hB3 hb4 (Nat.le_refl _)⟩
  · go_wp2_with fail
    (with_reducible refine Calls.mono (HF.out _ (HR.out.below hb1)) ?_)
    rintro e w2 ⟨rfl, hb2⟩
    clear c8
    go_wp2_with fail
    refine Calls.mono (alive4_any _) ?_
    rintro e w3 ⟨rfl, hb3⟩
    go_wp2_with fail
    go_ret
    exact ⟨rfl, below_after (below_after hb1 hb2 (Nat.le_refl _)) hb3 (Nat.le_refl _)⟩
end Go.Proofs.Ytpcfgihomplehaa
