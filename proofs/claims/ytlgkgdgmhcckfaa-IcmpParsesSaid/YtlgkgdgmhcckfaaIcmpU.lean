/- Walk of the law IcmpParses. -/
import Derived.Test.YtlgkgdgmhcckfaaIcmpS
import Derived.Deep.Cut
namespace Go.Proofs.Ytlgkgdgmhcckfaa
set_option linter.unusedVariables false
set_option linter.unusedSimpArgs false
open Go.RowKit

set_option maxHeartbeats 4000000 in
theorem lawParses_any (v : Value) (b : List UInt8) (s d : Adr) (w : World) (hx : RB w v b) :
    Calls Try.prog 4 #[v, .agg (s.cells ++ d.cells)] w fun e w' => e = .returned (.bool true) ∧ Below w.heap.size w w' := by
  have hx0 := hid hx
  obtain ⟨A, c, rfl, hrow⟩ := hx
  have hcap := hrow.cap
  have htop := hrow.top
  clear hrow
  by_cases hl : 3000 < b.length
  · have hd : decide ((3000 : Int) < (b.length : Int)) = true := by simp; omega
    go_enter Try.func4, Try.ntmps4
    go_wp2_with fail
    refine Calls.mono (alive_any _) ?_
    rintro e w2 ⟨rfl, hb2⟩
    go_wp2_with fail
    go_ret
    exact ⟨rfl, below_after (one_facts rfl).2.1 hb2 (Nat.le_refl _)⟩
  have hd : decide ((3000 : Int) < (b.length : Int)) = false := by simp; omega
  have HP := hid fun W (h : RB W (.slice A b.length c) b) => parse_any _ b s d W h (by omega)
  have HRP := hid fun W (h : RB W (.slice A b.length c) b) => rparse_any _ b s d W h (by omega)
  generalize parseS b s d = M at HP HRP
  generalize perrS b s d = er at HP HRP
  have HO := hid fun v W (h : RB W v M.data) => ours_any M v W h
  have HSM := hid fun u v W (h : RB W u M.data) (h2 : RB W v M.data) => rsame_any M M u v W h h2
  rw [(sameS_iff M M).2 rfl] at HSM
  obtain ⟨k, co, i, sq, u, dt⟩ := M
  simp only at *
  go_enter Try.func4, Try.ntmps4
  unfold Msg.v Msg.cells at HP HRP HO HSM
  go_wp2_with (first
    | refine wpList_load_at 29 (.tmp 15) rfl rfl ⟨w.heap.size, 0, none⟩ rfl s.cells _ (cells_part (one_facts rfl).1 (pair_l s d)) Try.underlying29 rfl (info_addr s) ?_
    | refine wpList_load_at 29 (.tmp 17) rfl rfl ⟨w.heap.size, 17, none⟩ rfl d.cells _ (cells_part (one_facts rfl).1 (pair_r s d)) Try.underlying29 rfl (info_addr d) ?_)
  generalize hW : w.alloc _ = W
  obtain ⟨f2, fb, fs⟩ := one_facts hW
  clear hW
  with_reducible refine Calls.mono (HP.out W (hx0.out.below fb)) ?_
  rintro e w1 ⟨dv1, rfl, hr1, hb1⟩
  have hr1' := hr1
  obtain ⟨A1, n1, rfl, _⟩ := hr1'
  replace f2 := (hb1.block _ (by omega)).trans f2
  replace fb := below_after fb hb1 (Nat.le_refl _)
  replace fs : w.heap.size + 1 ≤ w1.heap.size := Nat.le_trans (Nat.le_of_eq fs.symm) hb1.size
  clear hb1
  go_upto_region 4 with fail
  generalize hW : w1.alloc _ = w2
  obtain ⟨f5, hb2, fs2⟩ := one_facts hW
  clear hW
  replace f2 := (hb2.block _ (by omega)).trans f2
  replace fb := below_after fb hb2 (Nat.le_refl _)
  replace hr1 := hr1.below hb2
  have l5 : w1.heap.size < w2.heap.size := by omega
  have l25 : w.heap.size < w1.heap.size := by omega
  generalize w1.heap.size = X at *
  clear hb2 fs2
  go_wp2_with (first
    | refine wpList_load_at 29 (.tmp 24) rfl rfl ⟨w.heap.size, 0, none⟩ rfl s.cells _ (cells_part f2 (pair_l s d)) Try.underlying29 rfl (info_addr s) ?_
    | refine wpList_load_at 29 (.tmp 26) rfl rfl ⟨w.heap.size, 17, none⟩ rfl d.cells _ (cells_part f2 (pair_r s d)) Try.underlying29 rfl (info_addr d) ?_)
  with_reducible refine Calls.mono (HRP.out w2 (hx0.out.below fb)) ?_
  rintro e w3 ⟨dv3, rfl, hr3, hb3⟩
  have hr3' := hr3
  obtain ⟨A3, n3, rfl, _⟩ := hr3'
  replace f5 := (hb3.block _ (by omega)).trans f5
  replace fb := below_after fb hb3 (Nat.le_refl _)
  replace hr1 := hr1.below hb3
  replace l5 := Nat.lt_of_lt_of_le l5 hb3.size
  clear hb3 f2
  go_upto_region 5 with fail
  generalize hW : w3.alloc _ = w4
  obtain ⟨f7, hb4, fs4⟩ := one_facts hW
  clear hW
  replace f5 := (hb4.block _ (by omega)).trans f5
  replace fb := below_after fb hb4 (Nat.le_refl _)
  replace hr1 := hr1.below hb4
  replace hr3 := hr3.below hb4
  have l7 : w3.heap.size < w4.heap.size := by omega
  replace l5 := Nat.lt_of_lt_of_le l5 hb4.size
  generalize w3.heap.size = Y at *
  clear hb4 fs4
  refine wp_region_later w4.heap.size (Nat.le_refl _) (by kernel_rfl) (by kernel_rfl) ?_
  have g := fun x : Later w4.heap.size w4 => msg_cells (m := ⟨_, _, _, _, _, dt⟩) (x.blk f5 l5)
  have g' := fun x : Later w4.heap.size w4 => msg_cells (m := ⟨_, _, _, _, _, dt⟩) (x.blk f7 l7)
  simp only [forall_and] at g g'
  obtain ⟨c0, c1, c2, c3, c4, c5⟩ := g
  obtain ⟨y0, y1, y2, y3, y4, y5⟩ := g'
  have D1 := hid fun x : Later w4.heap.size w4 => hr1.below x.ok
  have D3 := hid fun x : Later w4.heap.size w4 => hr3.below x.ok
  clear f5 f7 hr1 hr3
  repeat (go_big_quiet_step (first
    | (go_at_call 19; with_reducible exact quiet_later _ (Nat.le_refl _) (HO.out _ _ (D1.out _)))
    | (go_at_call 16; with_reducible exact quiet_later _ (Nat.le_refl _) (HSM.out _ _ _ (D1.out _) (D3.out _)))
    | (go_at_call 9; exact quiet_later _ (Nat.le_refl _) (alive_any _))))
  refine wpQuiet_nil ?_
  rintro _ ⟨x, rfl⟩
  go_wp2_with fail
  go_ret
  exact ⟨rfl, fb.trans (x.ok.mono (by have := fb.size; omega))⟩
end Go.Proofs.Ytlgkgdgmhcckfaa
