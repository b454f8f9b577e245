/- Walks: New, and the laws' alive, layer 24. -/
import Derived.Test.YtblkfpipmdfmkaaSackE
import Derived.Test.YtblkfpipmdfmkaaSackF
namespace Go.Proofs.Ytblkfpipmdfmkaa
set_option linter.unusedVariables false
set_option linter.unusedSimpArgs false
open Go.RowKit

theorem new_any (f : Nat) (w : World) : Calls Try.prog 25 #[.int .u32 (f : Int)] w fun e w' => e = .returned (.pointer (some ⟨w.heap.size, 0, none⟩)) ∧ Brd w' w.heap.size f [] ∧ Below w.heap.size w w' := by
  go_enter Try.func25, Try.ntmps25
  go_wp2
  go_ret
  exact ⟨rfl, ⟨none, 0, nw1 w _, Row.nil _ 2, World.ownsRow_nil _ _ _ _⟩, bl1 w _⟩
def invA (k : Nat) (rs : List (Nat × Nat)) : Prop := (k = 0 → rs = []) ∧ (k ≠ 0 → rs = [(10, 20)])
theorem invA_ok (k : Nat) (rs : List (Nat × Nat)) (h : invA k rs) : OkR rs := by
  by_cases hk : k = 0
  · rw [h.1 hk]; exact ⟨by decide, fun r hr => by simp at hr⟩
  · rw [h.2 hk]; exact ⟨by decide, fun r hr => by simp at hr; subst hr; decide⟩
theorem addA : addR1 10 (aheadS 10 50) [] (20, 30) = [(10, 20)] := by decide +kernel
theorem addA2 : addR 10 (aheadS 10 50) [] [(20, 30)] = [(10, 20)] := by decide +kernel
theorem holeA : holeS 10 [(10, 20)] 10 50 100 = some (0, 10) := by decide +kernel
theorem hasA : hasR [(10, 20)] ((29 + 4294967296 - 10) % 4294967296) = true ∧ hasR [(10, 20)] ((30 + 4294967296 - 10) % 4294967296) = false := by decide +kernel
theorem okA : OkR [(10, 20)] := ⟨by decide, fun r hr => by simp at hr; subst hr; decide⟩
theorem build_blk (x y : Int) : ∀ w, (Instr.build 57 #[(0, .int .u32 x), (1, .int .u32 y)]).run Try.prog w = .ok (.agg #[.int .u32 x, .int .u32 y]) w := by intro w; kernel_rfl
theorem lit_blk (x y : Int) : ∀ w, (Instr.buildSlice 46 1 #[(0, .agg #[.int .u32 x, .int .u32 y])]).run Try.prog w = .ok (.slice (some ⟨w.heap.size, 0, none⟩) 1 1) (w.alloc (.cells #[.int .u32 x, .int .u32 y] 57)) := by intro w; kernel_rfl
theorem Row.one_blk {w : World} {b : Nat} {x y : Nat} {T : TypeId} (h : w.heap[b]? = some (.cells #[.int .u32 (x : Int), .int .u32 (y : Int)] T (0, 0))) : Row w 2 (some ⟨b, 0, none⟩) 1 1 (bcs [(x, y)]) := by
  refine ⟨rfl, Nat.le_refl _, by omega, fun k v hv => ⟨_, rfl, ?_⟩⟩
  have e : ((⟨b, 0, none⟩ : Addr).add k) = ⟨b, k, none⟩ := by
    unfold Addr.add
    split
    · rename_i h0; subst h0; rfl
    · simp
  rw [e, cellRow h k]
  rw [← hv]
  simp [bcs]
set_option maxHeartbeats 1000000 in
theorem addA_any (g : Nat) (b : Nat) (w : World) (h : Brd w g 10 []) (hb : w.heap[b]? = some (.cells #[.int .u32 20, .int .u32 30] 57 (0, 0))) (hne : b ≠ g) :
    Calls Try.prog 30 #[.pointer (some ⟨g, 0, none⟩), .int .u32 50, .slice (some ⟨b, 0, none⟩) 1 1] w fun e w' => e = .returned (.int .i64 10) ∧ Brd w' g 10 [(10, 20)] ∧ Mod [g] w w' := by
  have hx := add_any g 10 50 [] [(20, 30)] (some ⟨b, 0, none⟩) 1 w h (by decide) (by decide) (Row.one_blk (x := 20) (y := 30) hb) (fun W' hm => (Row.one_blk (x := 20) (y := 30) hb).mod hm (InB.some _ _) (by simpa using hne)) (fun r hr => by simp at hr; subst hr; decide)
    invA ⟨fun _ => rfl, fun h => absurd rfl h⟩ invA_ok (fun k rs' hk hi => by
      have hk0 : k = 0 := by simp at hk; exact hk
      subst hk0
      rw [hi.1 rfl]
      exact ⟨(fun h => absurd h (by decide)), (fun _ => addA)⟩) (fun k rs' x y W hk hi hbr hxy hy => by
      have hk0 : k = 0 := by simp at hk; exact hk
      subst hk0
      rw [hi.1 rfl] at hbr ⊢
      exact join_nil g 10 x y W hbr hxy hy)
  rw [addA2] at hx
  refine Calls.mono hx ?_
  rintro e w' ⟨he, hB, _, hM⟩
  exact ⟨he, hB, hM⟩
end Go.Proofs.Ytblkfpipmdfmkaa
