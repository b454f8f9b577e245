/- Walk: whether two segments are the same, by the document. -/
import Derived.Test.YthodepdgmcagjaaSam12
import Derived.Test.YthodepdgmcagjaaEqual
namespace Go.Proofs.Ythodepdgmcagjaa
set_option linter.unusedVariables false
set_option linter.unusedSimpArgs false
open Go.RowKit

def sameS (a b : SegM) : Bool := (a.src == b.src) && (a.dst == b.dst) && (a.seq == b.seq) && (a.ack == b.ack) && (a.flags == b.flags) && (a.win == b.win) && (a.urg == b.urg) && sameO a.o b.o && (a.data == b.data)
theorem info_optsX (o : OptM) (h : o.mac.length = 12) : (Try.prog.info? 27).map (·.size) = some o.cells.size := by rw [o.size h]; kernel_rfl
theorem seg_optsX {w : World} {b : Nat} {s : SegM} {T : TypeId} {fz : Nat × Nat} (h : w.heap[b]? = some (.cells s.cells T fz)) : ∀ (j : Nat) u, s.o.cells[j]? = some u → w.cell? ((⟨b, 7, none⟩ : Addr).add j) = some u :=
  cells_part h fun j u hu => by rw [s.opt_at j (Array.getElem?_eq_some_iff.1 hu).1]; exact hu
end Go.Proofs.Ythodepdgmcagjaa
