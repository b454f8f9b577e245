/- Walks: what stands ahead of a message in its sum; the reference's sum. -/
import Derived.Test.YtlgkgdgmhcckfaaIcmpD
import Derived.Test.YtlgkgdgmhcckfaaRps
import Derived.Test.YtlgkgdgmhcckfaaSumD
namespace Go.Proofs.Ytlgkgdgmhcckfaa
set_option linter.unusedVariables false
set_option linter.unusedSimpArgs false
open Go.RowKit

def aheadS (s d : Adr) (size : Nat) : List UInt8 := if s.six then pseudoS s d 58 size else []
theorem aheadS_len (s d : Adr) (size : Nat) : (aheadS s d size).length ≤ 40 := by unfold aheadS; split; exact pseudoS_len _ _ _ _; simp
theorem sumS_ahead (b : List UInt8) (s d : Adr) : sumS b s d = foldS (wtot [aheadS s d b.length, b]) := by
  unfold sumS aheadS
  cases s.six
  · simp [wtot_cons, wtot_nil, wsum]
  · simp
theorem btot2 (a b : List UInt8) (n : Nat) (ha : a.length ≤ 40) (hb : b.length ≤ n) (hn : n ≤ 900000) : btot [a, b] ≤ 1000000 := by simp [btot]; omega
theorem ahead_any (s d : Adr) (size : Nat) (w : World) (hs : size ≤ 4294967295) :
    Calls Try.prog 27 #[.agg s.cells, .agg d.cells, .int .i64 (size : Int)] w fun e w' => ∃ A c, e = .returned (.slice A (aheadS s d size).length c) ∧ OB w' w.heap.size (.slice A (aheadS s d size).length c) (aheadS s d size) ∧ Below w.heap.size w w' := by
  have hp := pseudo_any s d 58 size
  have k0 : s.cells[0]? = some (.bool s.six) := rfl
  unfold aheadS
  cases h6 : s.six
  · rw [h6] at k0
    clear hp
    go_enter Try.func27, Try.ntmps27
    go_wp2_with fail
    go_ret
    exact ⟨none, 0, rfl, OB.nil _ _, below2 w _ _⟩
  · rw [h6] at k0
    have HP := hid hp
    simp only [if_true]
    generalize pseudoS s d 58 size = L at HP ⊢
    clear hp
    go_enter Try.func27, Try.ntmps27
    go_wp2_with (first
      | refine wpList_load_row rfl 29 (.tmp 3) rfl w.heap.size rfl 29 s.cells (0, 0) _ (heap_alloc2_old w _ _) Try.underlying29 rfl (info_addr s) ?_
      | refine wpList_load_row rfl 29 (.tmp 4) rfl (w.heap.size + 1) rfl 29 d.cells (0, 0) _ (heap_alloc2_new w _ _) Try.underlying29 rfl (info_addr d) ?_)
    refine (HP.out _ hs).mono ?_
    rintro e w1 ⟨A1, c1, rfl, ho1, hb1⟩
    have HB1 := below_after (below2 w _ _) hb1 (Nat.le_refl _)
    go_wp2_with fail
    go_ret
    exact ⟨A1, c1, rfl, ho1.lower (by simp; omega), HB1⟩
set_option maxHeartbeats 1000000 in
theorem rsumm_any (v : Value) (b : List UInt8) (s d : Adr) (w : World) (hx : RB w v b) (hl : b.length ≤ 900000) :
    Calls Try.prog 29 #[v, .agg s.cells, .agg d.cells] w fun e w' => e = .returned (.int .u16 (sumS b s d)) ∧ Below w.heap.size w w' := by
  have hx0 := hx
  obtain ⟨A, c, rfl, hrow⟩ := hx
  have hcap := hrow.cap
  have htop := hrow.top
  clear hrow
  have k0 : s.cells[0]? = some (.bool s.six) := rfl
  unfold sumS
  cases h6 : s.six
  · rw [h6] at k0
    simp only [Bool.false_eq_true, if_false]
    have hb : btot [b] ≤ 1000000 := by simp [btot]; omega
    go_enter Try.func29, Try.ntmps29
    go_wp2_with fail
    refine (rsum_any _ [b] _ (RBB.new1 _ _ _ _ _ (by simp) (hx0.below (below2 w _ _))) hb).mono ?_
    rintro e w2 ⟨rfl, rfl⟩
    go_wp2_with fail
    go_ret
    exact ⟨rfl, below_alloc (below2 w _ _) _ (Nat.le_refl _)⟩
  · rw [h6] at k0
    simp only [if_true]
    have hp := rpseudo_any s d 58 b.length
    have hpl := pseudoS_len s d 58 b.length
    generalize pseudoS s d 58 b.length = L at hp hpl ⊢
    have HP := hid hp
    clear hp
    go_enter Try.func29, Try.ntmps29
    go_wp2_with (first
      | refine wpList_load_row rfl 29 (.tmp 4) rfl w.heap.size rfl 29 s.cells (0, 0) _ (heap_alloc2_old w _ _) Try.underlying29 rfl (info_addr s) ?_
      | refine wpList_load_row rfl 29 (.tmp 5) rfl (w.heap.size + 1) rfl 29 d.cells (0, 0) _ (heap_alloc2_new w _ _) Try.underlying29 rfl (info_addr d) ?_)
    refine (HP.out _ (by omega)).mono ?_
    rintro e w1 ⟨A1, c1, rfl, ho1, hb1⟩
    have HB1 := below_after (below2 w _ _) hb1 (Nat.le_refl _)
    go_wp2_with fail
    refine (rsum_any _ [L, b] _ (RBB.new2 _ _ _ _ _ _ _ rfl ho1.rb (hx0.below HB1)) (btot2 _ _ _ hpl hl (by omega))).mono ?_
    rintro e w2 ⟨rfl, rfl⟩
    go_wp2_with fail
    go_ret
    exact ⟨rfl, below_alloc HB1 _ (Nat.le_refl _)⟩
end Go.Proofs.Ytlgkgdgmhcckfaa
