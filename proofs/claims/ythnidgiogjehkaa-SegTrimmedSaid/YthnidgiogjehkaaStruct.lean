/- Blocks that hold a struct: what a store into one leaves. -/
import Derived.Test.YthnidgiogjehkaaMem
import Derived.Laws.Tables
namespace Go.Proofs.Ythnidgiogjehkaa
set_option linter.unusedVariables false
set_option linter.unusedSimpArgs false
open Go.RowKit

section
variable {w a : World} {b : Nat} {cs : Array Value} {T : TypeId}
theorem frozRow (h : w.heap[b]? = some (.cells cs T (0, 0))) (k : Nat) : w.frozen? ⟨b, k, none⟩ = false := by simp [World.frozen?, h]
theorem cellRow (h : w.heap[b]? = some (.cells cs T (0, 0))) (k : Nat) : w.cell? ⟨b, k, none⟩ = cs[k]? := cell_of_row w b k cs T (0, 0) h
theorem rowSetCell (h : w.heap[b]? = some (.cells cs T (0, 0))) (k : Nat) (v : Value) : (w.setCell ⟨b, k, none⟩ v).heap[b]? = some (.cells (cs.setIfInBounds k v) T (0, 0)) := by
  simp [World.setCell, Array.getElem?_modify, h]
theorem rowSetCell_far {c : Nat} (hne : b ≠ c) (k : Nat) (v : Value) : (w.setCell ⟨b, k, none⟩ v).heap[c]? = w.heap[c]? := by
  simp [World.setCell, Array.getElem?_modify, hne]
theorem rowSetRow (h : w.heap[b]? = some (.cells cs T (0, 0))) (ds : Array Value) : (w.setRow b ds).heap[b]? = some (.cells ds T (0, 0)) := by
  simp [World.setRow, Array.getElem?_modify, h]
theorem rowSetRow_far {c : Nat} (hne : b ≠ c) (ds : Array Value) : (w.setRow b ds).heap[c]? = w.heap[c]? := by
  simp [World.setRow, Array.getElem?_modify, hne]
theorem sizeSetRow (ds : Array Value) : (w.setRow b ds).heap.size = w.heap.size := by simp [World.setRow]
theorem belowSetRow {B : Nat} (h : Below B a w) (hb : B ≤ b) (ds : Array Value) : Below B a (w.setRow b ds) :=
  ⟨h.os, h.tape, h.output, by rw [sizeSetRow]; exact h.size, fun k hk => (rowSetRow_far (by omega) ds).trans (h.block k hk)⟩
end
end Go.Proofs.Ythnidgiogjehkaa
