/- Walks: far and the laws IpsixLays and IpsixWraps. -/
import Derived.Test.YtlijgcmcpehplaaAliveSix
import Derived.Test.YtlijgcmcpehplaaQRow
namespace Go.Proofs.Ytlijgcmcpehplaa
set_option linter.unusedVariables false
set_option linter.unusedSimpArgs false
open Go.RowKit

def farP (n : Nat) : Bool := decide (2000 < n) && decide (n ≤ 65527)
theorem far6_any (v : Value) (xs : List UInt8) (w : World) (hv : RB w v xs) :
    Calls Try.prog 9 #[v] w fun e w' => e = .returned (.bool (farP xs.length)) ∧ Below w.heap.size w w' := by
  obtain ⟨A, c, rfl, hr⟩ := hv
  clear hr
  generalize xs.length = n
  unfold farP
  by_cases h1 : 2000 < n
  · have c1 : decide (2000 < n) = true := decide_eq_true h1
    have c2 : decide ((2000 : Int) < (n : Int)) = true := decide_eq_true (by omega)
    by_cases h2 : n ≤ 65527
    · have c3 : decide (n ≤ 65527) = true := decide_eq_true h2
      have c4 : decide ((n : Int) ≤ 65527) = true := decide_eq_true (by omega)
      go_enter Try.func9, Try.ntmps9
      go_wp2_with fail
      go_ret
      rw [c1, c3]
      exact ⟨rfl, Below.refl _ _⟩
    · have c3 : decide (n ≤ 65527) = false := decide_eq_false h2
      have c4 : decide ((n : Int) ≤ 65527) = false := decide_eq_false (by omega)
      go_enter Try.func9, Try.ntmps9
      go_wp2_with fail
      go_ret
      rw [c1, c3]
      exact ⟨rfl, Below.refl _ _⟩
  · have c1 : decide (2000 < n) = false := decide_eq_false h1
    have c2 : decide ((2000 : Int) < (n : Int)) = false := decide_eq_false (by omega)
    go_enter Try.func9, Try.ntmps9
    go_wp2_with fail
    go_ret
    rw [c1]
    exact ⟨rfl, Below.refl _ _⟩
set_option maxHeartbeats 4000000 in
theorem lawLays6_any (p : Pkt) (dv : Value) (w : World) (hp : p.Ok) (hd : RB w dv p.load) :
    Calls Try.prog 3 #[p.v dv] w fun e w' => e = .returned (.bool true) ∧ Below w.heap.size w w' := by
  have HF := hid fun W (h : RB W dv p.load) => far6_any dv p.load W h
  have HL := hid fun W (h : RB W dv p.load) => lay6_any p dv W hp h
  have HRL := hid fun W (h : RB W dv p.load) => rlay6_any p dv W hp h
  have HM := hid fun W (h : RB W dv p.load) => may6_any p dv W hp h
  have HRM := hid fun W (h : RB W dv p.load) => rmay6_any p dv W hp h
  have HR := hid hd
  unfold BytesPost at HL HRL
  generalize layR p = la at HL HRL
  obtain ⟨b, be⟩ := la
  generalize may6 p = mb at HM HRM
  generalize farP p.load.length = fb at HF
  simp only at HL HRL
  have hI := info_pkt p dv
  have hone := Pkt.one p dv hd.one
  clear hd hp
  unfold Pkt.v at *
  cases fb
  · go_enter Try.func3, Try.ntmps3
    go_step
    go_step
    go_step
    refine wpList_boxF rfl 28 (.tmp 0) rfl (p.cells dv) rfl ?_
    intro w1 h1 hb1 s1
    have hl1 : w.heap.size < w1.heap.size := by omega
    clear s1
    obtain ⟨c0, c1, c2, c3, c4, c5, c6, c7, c8⟩ := pkt_cells h1
    go_wp2_with fail
    (with_reducible refine Calls.mono (HF.out _ (HR.out.below hb1)) ?_)
    rintro e w2 ⟨rfl, hb2⟩
    have h2 := (hb2.block _ hl1).trans h1
    have hB2 := below_after hb1 hb2 (Nat.le_refl _)
    have hl2 := Nat.lt_of_lt_of_le hl1 hb2.size
    clear hb1 hb2 h1 hl1 c0 c1 c2 c3 c4 c5 c6 c7 c8
    go_wp2_with (first
      | ((with_reducible refine at_slot 12 ?_); refine wpList_load_row rfl 28 (.tmp 1) rfl w.heap.size rfl _ (p.cells dv) _ _ h2 Try.underlying28 rfl hI ?_))
    (with_reducible refine Calls.mono (HL.out _ (HR.out.below hB2)) ?_)
    rintro e w3 ⟨A3, k3, rfl, o3, hb3⟩
    have h3 := (hb3.block _ hl2).trans h2
    have hB3 := below_after hB2 hb3 (Nat.le_refl _)
    have hl3 := Nat.lt_of_lt_of_le hl2 hb3.size
    have hr3 := o3.rb
    clear hb3 hB2 h2 hl2 o3
    go_wp2_with (first
      | ((with_reducible refine at_slot 17 ?_); refine wpList_load_row rfl 28 (.tmp 1) rfl w.heap.size rfl _ (p.cells dv) _ _ h3 Try.underlying28 rfl hI ?_))
    (with_reducible refine Calls.mono (HRL.out _ (HR.out.below hB3)) ?_)
    rintro e w4 ⟨A4, k4, rfl, o4, hb4⟩
    have h4 := (hb4.block _ hl3).trans h3
    have hB4 := below_after hB3 hb4 (Nat.le_refl _)
    have hl4 := Nat.lt_of_lt_of_le hl3 hb4.size
    have hr4 := o4.rb
    have hs3 := hr3.below hb4
    clear hb4 hB3 h3 hl3 o4 hr3
    go_wp2_with fail
    refine wp_region_later w4.heap.size (Nat.le_refl _) (by kernel_rfl) (by kernel_rfl) ?_
    have r3 := fun x : Later w4.heap.size w4 => conv_str (hs3.below x.ok)
    have r4 := fun x : Later w4.heap.size w4 => conv_str (hr4.below x.ok)
    have D0 := hid fun x : Later w4.heap.size w4 => HR.out.below (hB4.trans (x.ok.mono (Nat.le_of_lt (Nat.lt_of_le_of_lt (Nat.le_refl _) hl4))))
    have b4 := fun x : Later w4.heap.size w4 => x.blk h4 hl4
    clear h4 hs3 hr4
    repeat (first
      | ((with_reducible refine atq_slot 32 ?_); refine wpQuiet_row (by rfl) 28 (.tmp 1) rfl ⟨w.heap.size, 0, none⟩ rfl (p.cells dv) _ (row_later b4) Try.underlying28 rfl hI ?_; simp only [Act.put, List.setIfInBounds_toArray, List.set_cons_zero, List.set_cons_succ])
      | ((with_reducible refine atq_slot 34 ?_); refine wpQuiet_row (by rfl) 28 (.tmp 1) rfl ⟨w.heap.size, 0, none⟩ rfl (p.cells dv) _ (row_later b4) Try.underlying28 rfl hI ?_; simp only [Act.put, List.setIfInBounds_toArray, List.set_cons_zero, List.set_cons_succ])
      | go_big_quiet_step (first
      | (go_at_call 13; with_reducible exact quiet_later _ (Nat.le_refl _) (HM.out _ (D0.out _)))
      | (go_at_call 14; with_reducible exact quiet_later _ (Nat.le_refl _) (HRM.out _ (D0.out _)))
      | (go_at_call 10; exact quiet_later _ (Nat.le_refl _) (alive6_any _))))
    refine wpQuiet_nil ?_
    rintro _ ⟨x, rfl⟩
    go_wp2_with fail
    go_ret
    exact ⟨rfl, hB4.trans (x.ok.mono (Nat.le_of_lt hl4))⟩
  · go_enter Try.func3, Try.ntmps3
    go_step
    go_step
    go_step
    refine wpList_boxF rfl 28 (.tmp 0) rfl (p.cells dv) rfl ?_
    intro w1 h1 hb1 s1
    clear s1
    obtain ⟨c0, c1, c2, c3, c4, c5, c6, c7, c8⟩ := pkt_cells h1
    go_wp2_with fail
    (with_reducible refine Calls.mono (HF.out _ (HR.out.below hb1)) ?_)
    rintro e w2 ⟨rfl, hb2⟩
    clear c0 c1 c2 c3 c4 c5 c6 c7 c8
    go_wp2_with fail
    refine Calls.mono (alive6_any _) ?_
    rintro e w3 ⟨rfl, hb3⟩
    go_wp2_with fail
    go_ret
    exact ⟨rfl, below_after (below_after hb1 hb2 (Nat.le_refl _)) hb3 (Nat.le_refl _)⟩
end Go.Proofs.Ytlijgcmcpehplaa
