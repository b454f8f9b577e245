/- Boards in plain words: runs that are joined, blocks that are added. -/
import Derived.Test.YtblkfpipmdfmkaaSackD
import Derived.Test.YtblkfpipmdfmkaaBcs
namespace Go.Proofs.Ytblkfpipmdfmkaa
set_option linter.unusedVariables false
set_option linter.unusedSimpArgs false
open Go.RowKit

/-- The runs that a run does not touch, and the run joined to all that it touches. -/
def joinL : List (Nat × Nat) → (Nat × Nat) → List (Nat × Nat) × (Nat × Nat)
  | [], r => ([], r)
  | x :: xs, r => if x.2 < r.1 ∨ r.2 < x.1 then (x :: (joinL xs r).1, (joinL xs r).2) else joinL xs (min r.1 x.1, max r.2 x.2)
def insR (l : List (Nat × Nat)) (r : Nat × Nat) : List (Nat × Nat) := l.takeWhile (fun x => decide (x.1 < r.1)) ++ r :: l.dropWhile (fun x => decide (x.1 < r.1))
def joinR (rs : List (Nat × Nat)) (r : Nat × Nat) : List (Nat × Nat) := insR (joinL rs r).1 (joinL rs r).2
theorem joinR_nil (r : Nat × Nat) : joinR [] r = [r] := rfl
def aheadS (f n : Nat) : Nat := (n + 4294967296 - f) % 4294967296
/-- One block is added; e: how far the next number is ahead. -/
def addR1 (f e : Nat) (rs : List (Nat × Nat)) (b : Nat × Nat) : List (Nat × Nat) :=
  if e ≤ 65536 ∧ aheadS f b.2 ≤ e ∧ aheadS f b.1 < aheadS f b.2 then joinR rs (aheadS f b.1, aheadS f b.2) else rs
def addR (f e : Nat) (rs : List (Nat × Nat)) (bs : List (Nat × Nat)) : List (Nat × Nat) := bs.foldl (addR1 f e) rs
theorem addR_take (f e : Nat) (rs bs : List (Nat × Nat)) (k : Nat) (h : k < bs.length) : addR f e rs (bs.take (k + 1)) = addR1 f e (addR f e rs (bs.take k)) (bs.getD k (0, 0)) := by
  unfold addR
  rw [List.take_succ_eq_append_getElem h, List.foldl_append]
  simp [List.getD_eq_getElem?_getD, List.getElem?_eq_getElem h]
section
variable {P : Program} {o : Oper} {a : Act} {w : World} {Q : Exit → Act → World → Prop} {K : Act → World → Prop}
/-- A variable's block, at an operation of a region that draws. -/
theorem wp_allocR (e : TypeId) (ho : o.op = .alloc e) (cs : Array Value) (hz : ∀ w, (Instr.alloc e true (.tuple #[])).run P w = .ok (.pointer (some ⟨w.heap.size, 0, none⟩)) (w.alloc (.cells cs e)))
    (h : ∀ w', w'.heap[w.heap.size]? = some (.cells cs e (0, 0)) → Below w.heap.size w w' → K (a.put o.dst (.pointer (some ⟨w.heap.size, 0, none⟩))) w') : o.wp P a w K Q :=
  wp_yield (exec_alloc e ho cs hz) (h _ (nw1 w _) (bl1 w _))
end
end Go.Proofs.Ytblkfpipmdfmkaa
