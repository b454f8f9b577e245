/- Walks: the laws' alive and long of layer 2. -/
import Derived.Test.YtechpojcbhnfgaaOctR
import Derived.Test.YtechpojcbhnfgaaOctT
namespace Go.Proofs.Ytechpojcbhnfgaa
set_option linter.unusedVariables false
set_option linter.unusedSimpArgs false
open Go.RowKit

set_option maxHeartbeats 400000 in
theorem long_any (v : Value) (xs : List UInt8) (w : World) (hr : RB w v xs) :
    Calls Try.prog 8 #[v] w fun e w' => e = .returned (.bool (decide (3000 < xs.length))) ∧ w = w' := by
  obtain ⟨A, c, rfl, hrow⟩ := hr
  have htop := hrow.top
  have hcap := hrow.cap
  go_enter Try.func8, Try.ntmps8
  go_wp2
  go_ret
  exact ⟨by simp; omega, rfl⟩

set_option maxHeartbeats 400000 in
theorem alive1_any (p q : Addr) (v x : Value) (w : World) (hp : w.cell? p = some v) (hv : RB w v [1, 2]) (hq : w.cell? q = some x) (hz : w.frozen? q = false) :
    Calls Try.prog 27 #[.pointer (some p), .pointer (some q)] w fun e w' => e = .returned (.tuple #[]) ∧ ∃ w2, Below w.heap.size w w2 ∧ w' = w2.setCell q (.int .u64 258) := by
  have hql := World.block_lt_of_cell? w q hq
  go_enter Try.func27, Try.ntmps27
  go_wp2_with fail
  refine (read_any v [1, 2] _ hv (by simp)).mono ?_
  rintro e w1 ⟨g, rfl, hg, hr1, hb1⟩
  go_wp2_with fail
  refine (num_some g [1, 2] 2 2 (by omega) rfl (by simp) _ hr1).mono ?_
  rintro e w2 ⟨rfl, hr2, hg2, hs2⟩
  have hb2 := hb1.grown hg2 hb1.size (fun k hk => by injection hk with hk; omega)
  have hq2 := (hb2.cell hql).trans hq
  have hz2 := (hb2.frozen hql).trans hz
  have h258 : (getS (List.take 2 [1, 2]) : Int) = 258 := by decide
  go_wp2_with fail
  go_end0
  exact ⟨rfl, w2, hb2, rfl⟩

set_option maxHeartbeats 400000 in
theorem alive2_any (p : Addr) (v : Value) (w : World) (hp : w.cell? p = some v) (hv : RB w v [1, 2]) :
    Calls Try.prog 28 #[.pointer (some p)] w fun e w' => e = .panicked stopC ∧ Below w.heap.size w w' := by
  go_enter Try.func28, Try.ntmps28
  go_wp2_with fail
  refine (read_any v [1, 2] _ hv (by simp)).mono ?_
  rintro e w1 ⟨g, rfl, hg, hr1, hb1⟩
  go_wp2_with fail
  refine (num_stop _ 3 _ 2 (by decide) (left_any g _ _ hr1)).mono ?_
  rintro e w2 ⟨rfl, rfl⟩
  go_wp2_with fail
  exact ⟨rfl, rfl, hb1⟩

set_option maxHeartbeats 400000 in
theorem alive_any (w : World) : Calls Try.prog 9 #[] w fun e w' => e = .returned (.bool true) ∧ Below w.heap.size w w' := by
  have hmf : ∀ (fn : Fn) (first cap : Array Value) (w : World), (Instr.makeFunc fn first cap).run Try.prog w = .ok (.func fn first cap) w := fun _ _ _ _ => rfl
  go_enter Try.func9, Try.ntmps9
  go_wp2_with fail
  refine (put_any _ _ [] 2 [258] _ (RB.nil _) (RN.new _ _ _ _ _ 1 rfl rfl (by omega) rfl) (by omega) (by omega) (by simp)).mono ?_
  have hL : ([] ++ beL (clampN 2) [258] : List UInt8) = [1, 2] := by decide
  rw [hL]
  rintro e w1 ⟨A, c, rfl, ho, hb⟩
  have hb0 : Below w.heap.size w w1 := (below_alloc (Below.refl _ _) _ (Nat.le_refl _)).trans (hb.mono (by simp))
  go_wp2_with fail
  obtain ⟨W, hW, f0, f1, fb, fs⟩ := two_blocks w1 (.cells #[.slice A 2 c] 22) (.cells #[.int .u64 0] 28)
  rw [← hW]
  clear hW hb
  have hrW := ho.rb.below fb
  refine (try_any 27 _ W (fun b w' => b = true ∧ W.grownBy w' (some (w1.heap.size + 1)) ∧ w'.heap[w1.heap.size + 1]? = some (.cells #[.int .u64 258] 28 (0, 0))) (fun w => by kernel_rfl) ?_).mono ?_
  · have hA := below_alloc (Below.refl W.heap.size W) (.cells #[.int .i64 0] 33) (Nat.le_refl _)
    have g0 := (hA.block _ (by omega)).trans f0
    have g1 := (hA.block _ (by omega)).trans f1
    have g2 := heap_alloc_new W (.cells #[.int .i64 0] 33)
    have hsz : (W.alloc (.cells #[.int .i64 0] 33)).heap.size = W.heap.size + 1 := by simp
    generalize W.alloc (.cells #[.int .i64 0] 33) = WA at hA g0 g1 g2 hsz ⊢
    refine (alive1_any ⟨w1.heap.size, 0, none⟩ ⟨w1.heap.size + 1, 0, none⟩ (.slice A 2 c) _ WA (cell_of_row _ _ _ _ _ _ g0) (hrW.below hA) (cell_of_row _ _ _ _ _ _ g1) (by simp [World.frozen?, g1])).mono ?_
    rintro e w' ⟨rfl, w2, hb2, rfl⟩
    have k1 : (w2.setCell ⟨w1.heap.size + 1, 0, none⟩ (.int .u64 258)).heap[w1.heap.size + 1]? = some (.cells #[.int .u64 258] 28 (0, 0)) := by
      have := (hb2.block (w1.heap.size + 1) (by omega)).trans g1
      simp [World.setCell, Array.getElem?_modify, this]
    refine ⟨?_, .inl ⟨rfl, rfl, ?_, k1⟩⟩
    · rw [Below.heap_setCell _ _ _ _ (by show W.heap.size ≠ w1.heap.size + 1; omega)]
      exact (hb2.block _ (by omega)).trans g2
    · have h1 := (World.grownBy.trans (row := some (w1.heap.size + 1)) ⟨hA.os, hA.tape, hA.output, hA.size, fun k hk _ => hA.block k hk⟩ ⟨hb2.os, hb2.tape, hb2.output, hb2.size, fun k hk _ => hb2.block k hk⟩)
      exact h1.trans (grownBy_setCell w2 (w1.heap.size + 1) 0 (.int .u64 258))
  · rintro e w3 ⟨b, w', ⟨rfl, hg, hk⟩, rfl, hg2, _⟩
    have hsz1 := hg.size
    have hsz2 := hg2.size
    have fb3 : Below w1.heap.size w1 w3 := (fb.grown hg fb.size (fun k hk => by injection hk with hk; omega)).grown hg2 (by omega) (fun k hk => by injection hk with hk; omega)
    have h0 : w3.heap[w1.heap.size]? = some (.cells #[.slice A 2 c] 22 (0, 0)) :=
      (hg2.block _ (by omega) (by simp; omega)).trans ((hg.block _ (by omega) (by simp)).trans f0)
    have h1 : w3.heap[w1.heap.size + 1]? = some (.cells #[.int .u64 258] 28 (0, 0)) := (hg2.block _ (by omega) (by simp; omega)).trans hk
    have hr3 : RB w3 (.slice A 2 c) [1, 2] := ho.rb.below fb3
    have hw3 : w1.heap.size + 2 ≤ w3.heap.size := by omega
    clear hg hg2 hk f0 f1 fb fs hrW hsz1 hsz2
    go_wp2_with fail
    refine (try_any 28 _ w3 (fun b w' => b = false ∧ Below w3.heap.size w3 w') (fun w => by kernel_rfl) ?_).mono ?_
    · have hA := below_alloc (Below.refl w3.heap.size w3) (.cells #[.int .i64 0] 33) (Nat.le_refl _)
      have g0 := (hA.block _ (by omega)).trans h0
      have g2 := heap_alloc_new w3 (.cells #[.int .i64 0] 33)
      have hsz : (w3.alloc (.cells #[.int .i64 0] 33)).heap.size = w3.heap.size + 1 := by simp
      generalize w3.alloc (.cells #[.int .i64 0] 33) = WA at hA g0 g2 hsz ⊢
      refine (alive2_any ⟨w1.heap.size, 0, none⟩ (.slice A 2 c) WA (cell_of_row _ _ _ _ _ _ g0) (hr3.below hA)).mono ?_
      rintro e w' ⟨rfl, hb2⟩
      exact ⟨(hb2.block _ (by omega)).trans g2, .inr ⟨rfl, rfl, below_after hA hb2 (Nat.le_refl _)⟩⟩
    · rintro e w4 ⟨b, w5, ⟨rfl, hb5⟩, rfl, hg5, _⟩
      have hsz5 := hb5.size
      have fb4 : Below w1.heap.size w1 w4 := (below_after fb3 hb5 (Nat.le_refl _)).grown hg5 (by omega) (fun k hk => by injection hk with hk; omega)
      have k0 : w4.heap[w1.heap.size]? = some (.cells #[.slice A 2 c] 22 (0, 0)) := (hg5.block _ (by omega) (by simp; omega)).trans ((hb5.block _ (by omega)).trans h0)
      have k1 : w4.heap[w1.heap.size + 1]? = some (.cells #[.int .u64 258] 28 (0, 0)) := (hg5.block _ (by omega) (by simp; omega)).trans ((hb5.block _ (by omega)).trans h1)
      obtain ⟨A', c', e1, hrow⟩ := ho.rb.below fb4
      injection e1 with e1 _ e3
      subst e1 e3
      obtain ⟨ad, rfl⟩ := hrow.addr (by simp [by8])
      have c0 := cell_of_row w4 _ 0 _ _ _ k0
      have c1 := cell_of_row w4 _ 0 _ _ _ k1
      have c2 := hrow.get 0 _ rfl
      rw [add_zero'] at c2
      simp only [List.getElem?_toArray, List.getElem?_cons_zero] at c0 c1
      have c2' : w4.cell? ad = some (.int .u8 1) := c2
      clear c2
      have hcap := hrow.cap
      have htop := hrow.top
      go_wp2_with fail
      go_ret
      exact ⟨rfl, below_after hb0 (fb4) (Nat.le_refl _)⟩
end Go.Proofs.Ytechpojcbhnfgaa
