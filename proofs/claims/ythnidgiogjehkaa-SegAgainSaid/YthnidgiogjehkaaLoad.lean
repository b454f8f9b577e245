/- Walks: chksum.Load, chksum.Good. -/
import Derived.Test.YthnidgiogjehkaaSumD
import Derived.Test.YthnidgiogjehkaaAdr
namespace Go.Proofs.Ythnidgiogjehkaa
set_option linter.unusedVariables false
set_option linter.unusedSimpArgs false
set_option maxRecDepth 20000
open Go.RowKit

theorem btot2 (a b : List UInt8) (n : Nat) (ha : a.length ≤ 40) (hb : b.length ≤ n) (hn : n ≤ 900000) : btot [a, b] ≤ 1000000 := by simp [btot]; omega

set_option maxHeartbeats 800000 in
theorem load_any (s d : Adr) (p : UInt8) (v : Value) (xs : List UInt8) (w : World) (hx : RB w v xs) (hl : xs.length ≤ 900000) :
    Calls Try.prog 31 #[.agg s.cells, .agg d.cells, .int .u8 (p.toNat : Int), v] w fun e w' => e = .returned (.int .u16 (65535 - foldS (wtot [pseudoS s d p xs.length, xs]))) ∧ Below w.heap.size w w' := by
  have hx0 := hx
  obtain ⟨A, c, rfl, hrow⟩ := hx
  have hcap := hrow.cap
  have htop := hrow.top
  have hpl := pseudoS_len s d p xs.length
  generalize hps : pseudoS s d p xs.length = ps at hpl ⊢
  have HPS := hid hps
  clear hps
  go_enter Try.func31, Try.ntmps31
  go_wp2_with (first
    | refine wpList_load_row rfl 24 (.tmp 4) rfl w.heap.size rfl 24 s.cells (0, 0) _ (heap_alloc2_old w _ _) Try.underlying24 rfl (info_addr s) ?_
    | refine wpList_load_row rfl 24 (.tmp 5) rfl (w.heap.size + 1) rfl 24 d.cells (0, 0) _ (heap_alloc2_new w _ _) Try.underlying24 rfl (info_addr d) ?_)
  refine (pseudo_any s d p xs.length _ (by omega)).mono ?_
  rw [HPS.out]
  rintro e w1 ⟨A1, c1, rfl, ho1, hb1⟩
  have HB1 := below_after (below_alloc (below_alloc (Below.refl w.heap.size w) _ (Nat.le_refl _)) _ (Nat.le_refl _)) hb1 (Nat.le_refl _)
  go_wp2_with fail
  refine (check_any _ [ps, xs] _ (RBB.new2 _ _ _ _ _ _ _ rfl ho1.rb (hx0.below HB1)) (btot2 _ _ _ hpl hl (by omega))).mono ?_
  rintro e w2 ⟨rfl, n2, rfl⟩
  go_wp2_with fail
  go_ret
  exact ⟨rfl, below_drewN (below_alloc HB1 _ (Nat.le_refl _)) _⟩

set_option maxHeartbeats 800000 in
theorem good_any (s d : Adr) (p : UInt8) (v : Value) (xs : List UInt8) (w : World) (hx : RB w v xs) (hl : xs.length ≤ 900000) :
    Calls Try.prog 39 #[.agg s.cells, .agg d.cells, .int .u8 (p.toNat : Int), v] w fun e w' => e = .returned (.bool (foldS (wtot [pseudoS s d p xs.length, xs]) == 65535)) ∧ Below w.heap.size w w' := by
  have hx0 := hx
  obtain ⟨A, c, rfl, hrow⟩ := hx
  have hcap := hrow.cap
  have htop := hrow.top
  have hpl := pseudoS_len s d p xs.length
  generalize hps : pseudoS s d p xs.length = ps at hpl ⊢
  have HPS := hid hps
  clear hps
  go_enter Try.func39, Try.ntmps39
  go_wp2_with (first
    | refine wpList_load_row rfl 24 (.tmp 4) rfl w.heap.size rfl 24 s.cells (0, 0) _ (heap_alloc2_old w _ _) Try.underlying24 rfl (info_addr s) ?_
    | refine wpList_load_row rfl 24 (.tmp 5) rfl (w.heap.size + 1) rfl 24 d.cells (0, 0) _ (heap_alloc2_new w _ _) Try.underlying24 rfl (info_addr d) ?_)
  refine (pseudo_any s d p xs.length _ (by omega)).mono ?_
  rw [HPS.out]
  rintro e w1 ⟨A1, c1, rfl, ho1, hb1⟩
  have HB1 := below_after (below_alloc (below_alloc (Below.refl w.heap.size w) _ (Nat.le_refl _)) _ (Nat.le_refl _)) hb1 (Nat.le_refl _)
  go_wp2_with fail
  refine (sum_any _ [ps, xs] _ (RBB.new2 _ _ _ _ _ _ _ rfl ho1.rb (hx0.below HB1)) (btot2 _ _ _ hpl hl (by omega))).mono ?_
  generalize hS : foldS (wtot [ps, xs]) = S
  have HS := hid hS
  clear hS
  rintro e w2 ⟨rfl, n2, rfl⟩
  go_wp2_with fail
  go_ret
  exact ⟨by rw [HS.out]; rfl, below_drewN (below_alloc HB1 _ (Nat.le_refl _)) _⟩
end Go.Proofs.Ythnidgiogjehkaa
