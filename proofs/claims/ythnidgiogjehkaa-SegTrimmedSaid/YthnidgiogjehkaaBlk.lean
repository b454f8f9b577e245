/- Blocks laid one behind the other. -/
import Derived.Test.YthnidgiogjehkaaRegT
import Derived.Test.YthnidgiogjehkaaStruct
namespace Go.Proofs.Ythnidgiogjehkaa
set_option linter.unusedVariables false
set_option linter.unusedSimpArgs false
open Go.RowKit

theorem nw1 (w : World) (a : Obj) : (w.alloc a).heap[w.heap.size]? = some a := heap_alloc_new w a
theorem nw2 (w : World) (a b : Obj) : ((w.alloc a).alloc b).heap[w.heap.size + 1]? = some b := by
  have := heap_alloc_new (w.alloc a) b
  simpa using this
theorem nw2a (w : World) (a b : Obj) : ((w.alloc a).alloc b).heap[w.heap.size]? = some a := by
  rw [Below.heap_alloc _ _ _ (by simp)]; exact heap_alloc_new w a
theorem nw3 (w : World) (a b c : Obj) : (((w.alloc a).alloc b).alloc c).heap[w.heap.size + 1 + 1]? = some c := by
  have := heap_alloc_new ((w.alloc a).alloc b) c
  simpa using this
theorem nw3b (w : World) (a b c : Obj) : (((w.alloc a).alloc b).alloc c).heap[w.heap.size + 1]? = some b := by
  rw [Below.heap_alloc _ _ _ (by simp)]; exact nw2 w a b
theorem nw3a (w : World) (a b c : Obj) : (((w.alloc a).alloc b).alloc c).heap[w.heap.size]? = some a := by
  rw [Below.heap_alloc _ _ _ (by simp; omega)]; exact nw2a w a b
theorem bl1 (w : World) (a : Obj) : Below w.heap.size w (w.alloc a) := below_alloc (Below.refl _ _) a (Nat.le_refl _)
theorem bl2 (w : World) (a b : Obj) : Below w.heap.size w ((w.alloc a).alloc b) := below_alloc (bl1 w a) b (Nat.le_refl _)
theorem bl3 (w : World) (a b c : Obj) : Below w.heap.size w (((w.alloc a).alloc b).alloc c) := below_alloc (bl2 w a b) c (Nat.le_refl _)
theorem by8_one (xs : List UInt8) : ∀ v ∈ by8 xs, v.oneCell' = true := by
  intro v hv
  simp only [by8, List.mem_map] at hv
  obtain ⟨x, _, rfl⟩ := hv
  rfl
end Go.Proofs.Ythnidgiogjehkaa
