/- Walk: a new buffer. -/
import Derived.Test.YtblkfpipmdfmkaaRbC
import Derived.Test.YtblkfpipmdfmkaaBare
import Derived.Test.YtblkfpipmdfmkaaRegM
namespace Go.Proofs.Ytblkfpipmdfmkaa
set_option linter.unusedVariables false
set_option linter.unusedSimpArgs false
open Go.RowKit

theorem wp_make8 {o : Oper} {a : Act} {K : Act → World → Prop} {Q : Exit → Act → World → Prop} {w : World} (x y : Operand) (ho : o.op = .makeSlice 32 x y) (n : Nat) (hx : a.eval x = .int .i64 (n : Int)) (hy : a.eval y = .int .i64 (n : Int)) (hn : n ≤ 1000000)
    (h : ∀ w', w'.heap[w.heap.size]? = some (.cells (by8 (List.replicate n 0)).toArray 5 (0, 0)) → Below w.heap.size w w' → w'.heap.size = w.heap.size + 1 → K (a.put o.dst (.slice (some ⟨w.heap.size, 0, none⟩) n n)) w') : o.wp Try.prog a w K Q := by
  refine wp_yield (v := .slice (some ⟨w.heap.size, 0, none⟩) n n) (w' := w.alloc (.cells (by8 (List.replicate n 0)).toArray 5)) ?_ (h _ (nw1 w _) (bl1 w _) (by simp))
  unfold execOp
  simp only [ho, hx, hy, Sem.run_bind, make8_any n w hn, Result.andThen_ok, Sem.run_pure]
theorem wp_boxR {o : Oper} {a : Act} {K : Act → World → Prop} {Q : Exit → Act → World → Prop} {w : World} (e : TypeId) (x : Operand) (ho : o.op = .box e x) (cs : Array Value) (hx : (a.eval x).cells = cs)
    (h : ∀ w', w'.heap[w.heap.size]? = some (.cells cs e (0, 0)) → Below w.heap.size w w' → w'.heap.size = w.heap.size + 1 → K (a.put o.dst (.pointer (some ⟨w.heap.size, 0, none⟩))) w') : o.wp Try.prog a w K Q :=
  wp_yield (exec_box e x ho cs hx) (h _ (nw1 w _) (bl1 w _) (by simp))
end Go.Proofs.Ytblkfpipmdfmkaa
