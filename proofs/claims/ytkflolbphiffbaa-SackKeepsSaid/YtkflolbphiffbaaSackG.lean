/- Walks: New, and the laws' alive, layer 24. -/
import Derived.Test.YtkflolbphiffbaaSackE
import Derived.Test.YtkflolbphiffbaaSackF
namespace Go.Proofs.Ytkflolbphiffbaa
set_option linter.unusedVariables false
set_option linter.unusedSimpArgs false
open Go.RowKit

theorem new_any (f : Nat) (w : World) : Calls Try.prog 6 #[.int .u32 (f : Int)] w fun e w' => e = .returned (.pointer (some ⟨w.heap.size, 0, none⟩)) ∧ Brd w' w.heap.size f [] ∧ Below w.heap.size w w' := by
  go_enter Try.func6, Try.ntmps6
  go_wp2
  go_ret
  exact ⟨rfl, ⟨none, 0, nw1 w _, Row.nil _ 2⟩, bl1 w _⟩
def invA (k : Nat) (rs : List (Nat × Nat)) : Prop := (k = 0 → rs = []) ∧ (k ≠ 0 → rs = [(10, 20)])
theorem invA_ok (k : Nat) (rs : List (Nat × Nat)) (h : invA k rs) : OkR rs := by
  by_cases hk : k = 0
  · rw [h.1 hk]; exact ⟨by decide, fun r hr => by simp at hr⟩
  · rw [h.2 hk]; exact ⟨by decide, fun r hr => by simp at hr; subst hr; decide⟩
theorem addA : addR1 10 (aheadS 10 50) [] (20, 30) = [(10, 20)] := by decide +kernel
theorem addA2 : addR 10 (aheadS 10 50) [] [(20, 30)] = [(10, 20)] := by decide +kernel
theorem holeA : holeS 10 [(10, 20)] 10 50 100 = some (0, 10) := by decide +kernel
theorem hasA : hasR [(10, 20)] ((29 + 4294967296 - 10) % 4294967296) = true ∧ hasR [(10, 20)] ((30 + 4294967296 - 10) % 4294967296) = false := by decide +kernel
theorem okA : OkR [(10, 20)] := ⟨by decide, fun r hr => by simp at hr; subst hr; decide⟩
theorem build_blk (x y : Int) : ∀ w, (Instr.build 37 #[(0, .int .u32 x), (1, .int .u32 y)]).run Try.prog w = .ok (.agg #[.int .u32 x, .int .u32 y]) w := by intro w; kernel_rfl
theorem lit_blk (x y : Int) : ∀ w, (Instr.buildSlice 29 1 #[(0, .agg #[.int .u32 x, .int .u32 y])]).run Try.prog w = .ok (.slice (some ⟨w.heap.size, 0, none⟩) 1 1) (w.alloc (.cells #[.int .u32 x, .int .u32 y] 37)) := by intro w; kernel_rfl
theorem Row.one_blk {w : World} {b : Nat} {x y : Nat} {T : TypeId} (h : w.heap[b]? = some (.cells #[.int .u32 (x : Int), .int .u32 (y : Int)] T (0, 0))) : Row w 2 (some ⟨b, 0, none⟩) 1 1 (bcs [(x, y)]) := by
  refine ⟨rfl, Nat.le_refl _, by omega, fun k v hv => ⟨_, rfl, ?_⟩⟩
  have e : ((⟨b, 0, none⟩ : Addr).add k) = ⟨b, k, none⟩ := by
    unfold Addr.add
    split
    · rename_i h0; subst h0; rfl
    · simp
  rw [e, cellRow h k]
  rw [← hv]
  simp [bcs]
set_option maxHeartbeats 1000000 in
theorem addA_any (g : Nat) (b : Nat) (w : World) (h : Brd w g 10 []) (hb : w.heap[b]? = some (.cells #[.int .u32 20, .int .u32 30] 37 (0, 0))) (hne : b ≠ g) :
    Calls Try.prog 10 #[.pointer (some ⟨g, 0, none⟩), .int .u32 50, .slice (some ⟨b, 0, none⟩) 1 1] w fun e w' => e = .returned (.int .i64 10) ∧ Brd w' g 10 [(10, 20)] ∧ Mod [g] w w' := by
  have hx := add_any g 10 50 [] [(20, 30)] (some ⟨b, 0, none⟩) 1 w h (by decide) (by decide) (Row.one_blk (x := 20) (y := 30) hb) (fun W' hm => (Row.one_blk (x := 20) (y := 30) hb).mod hm (InB.some _ _) (by simpa using hne)) (fun r hr => by simp at hr; subst hr; decide)
    invA ⟨fun _ => rfl, fun h => absurd rfl h⟩ invA_ok (fun k rs' hk hi => by
      have hk0 : k = 0 := by simp at hk; exact hk
      subst hk0
      rw [hi.1 rfl]
      exact ⟨(fun h => absurd h (by decide)), (fun _ => addA)⟩) (fun k rs' x y W hk hi hbr hxy hy => by
      have hk0 : k = 0 := by simp at hk; exact hk
      subst hk0
      rw [hi.1 rfl] at hbr ⊢
      exact join_nil g 10 x y W hbr hxy hy)
  rw [addA2] at hx
  refine Calls.mono hx ?_
  rintro e w' ⟨he, hB, _, hM⟩
  exact ⟨he, hB, hM⟩
set_option maxHeartbeats 1000000 in
theorem alive24_any (w : World) : Calls Try.prog 8 #[] w fun e w' => e = .returned (.bool true) ∧ Below w.heap.size w w' := by
  have HN := hid (new_any 10 w)
  have HA := hid addA_any
  have HH := hid fun W g (h : Brd W g 10 [(10, 20)]) => hole_any g 10 [(10, 20)] 10 50 100 W h okA (by decide) (by decide) (by decide) (by decide)
  have hv : holeV 10 (some (0, 10)) = .tuple #[.int .u32 10, .int .i64 10, .bool true] := rfl
  rw [holeA, hv] at HH
  clear hv
  have H1 := hid fun W g (h : Brd W g 10 [(10, 20)]) => has_any g 10 [(10, 20)] 29 W h okA (by decide) (by decide)
  have H2 := hid fun W g (h : Brd W g 10 [(10, 20)]) => has_any g 10 [(10, 20)] 30 W h okA (by decide) (by decide)
  rw [hasA.1] at H1
  rw [hasA.2] at H2
  go_enter Try.func8, Try.ntmps8
  go_wp2_with fail
  (refine Calls.mono HN.out ?_)
  rintro e w1 ⟨rfl, B1, hb1⟩
  go_wp2_with (first
    | ((with_reducible refine at_build 37 ?_); refine wpList_yieldG rfl (exec_buildR 37 _ rfl #[(0, .int .u32 20), (1, .int .u32 30)] (by simp [Act.eval, Act.put]) _ (build_blk 20 30)) ?_))
  (refine Calls.mono (HA.out w.heap.size w1.heap.size _ (B1.below (bl1 w1 _)) (nw1 w1 _) (by have := B1.lt; omega)) ?_)
  rintro e w2 ⟨rfl, B2, m2⟩
  have hb2 := m2.below (below_after hb1 (bl1 w1 (.cells #[.int .u32 20, .int .u32 30] 37)) (Nat.le_refl _)) (Nat.le_refl _) (by simp)
  clear m2 B1 hb1
  go_wp2_with fail
  (refine Calls.mono (HH.out _ _ B2) ?_)
  rintro e w3 ⟨rfl, hb3⟩
  have B3 := B2.below hb3
  have hB3 := below_after hb2 hb3 (Nat.le_refl _)
  clear hb2 hb3 B2
  go_wp2_with fail
  (refine Calls.mono (H1.out _ _ B3) ?_)
  rintro e w4 ⟨rfl, hb4⟩
  have B4 := B3.below hb4
  have hB4 := below_after hB3 hb4 (Nat.le_refl _)
  clear hB3 hb4 B3
  go_wp2_with fail
  (refine Calls.mono (H2.out _ _ B4) ?_)
  rintro e w5 ⟨rfl, hb5⟩
  go_wp2_with fail
  go_ret
  exact ⟨rfl, below_after hB4 hb5 (Nat.le_refl _)⟩
end Go.Proofs.Ytkflolbphiffbaa
