/- Walk: ipsix.Parse. -/
import Derived.Test.YtlijgcmcpehplaaRd6H
import Derived.Test.YtlijgcmcpehplaaSlc
import Derived.Test.YtlijgcmcpehplaaAdrC
import Derived.Test.YtlijgcmcpehplaaRegM
namespace Go.Proofs.Ytlijgcmcpehplaa
set_option linter.unusedVariables false
set_option linter.unusedSimpArgs false
open Go.RowKit

def nilS : Value := .slice none 0 0
def pkt0 (k h : UInt8) : Pkt := { noPkt with proto := k, hops := h, whole := true }
theorem Adr.oneL (a : Adr) : ∀ u ∈ a.cells.toList, u.oneCell' = true := by
  have h := Array.all_eq_true_iff_forall_mem.1 (Adr.one a)
  exact fun u hu => h u (by simpa using hu)
theorem RSt.below {w w' : World} {b g d : Nat} {p : Pkt} {dv : Value} {xs : List UInt8} (h : RSt w b g d p dv xs) (hb : Below w.heap.size w w') : RSt w' b g d p dv xs := h.mod (Mod.of_below hb) (by simp) (by simp) (by simp)
theorem RSt.part {w w' : World} {b g d : Nat} {p p' : Pkt} {dv dv' : Value} {xs : List UInt8} (h : RSt w b g d p dv xs) (hb : w'.heap[b]? = some (.cells (rdCells g p' dv') 61 (0, 0))) (hm : Mod [b] w w') : RSt w' b g d p' dv' xs :=
  ⟨hb, h.rdr.mod hm (by simp; exact fun e => h.bg e.symm) (by simp; exact fun e => h.bd e.symm), h.bg, h.bd, h.dg⟩
theorem left_zero (g : Nat) (w : World) (h : Rdr w g []) : Calls Try.prog 34 #[.pointer (some ⟨g, 0, none⟩)] w fun e w' => e = .returned (.int .i64 0) ∧ w = w' := left_any g [] w h
theorem rd_part {w : World} {b g : Nat} {p : Pkt} {dv : Value} {T : TypeId} (h : w.heap[b]? = some (.cells (rdCells g p dv) T (0, 0))) : ∀ (j : Nat) u, (p.cells dv)[j]? = some u → w.cell? ((⟨b, 1, none⟩ : Addr).add j) = some u :=
  cells_part h (fun j u hu => by rw [Nat.add_comm]; simpa [rdCells] using hu)
theorem build_noPkt : ∀ w, (Instr.build 28 #[]).run Try.prog w = .ok (.agg (noPkt.cells nilS)) w := by intro w; kernel_rfl
theorem alloc_noPkt : ∀ w, (Instr.alloc 28 true (.tuple #[])).run Try.prog w = .ok (.pointer (some ⟨w.heap.size, 0, none⟩)) (w.alloc (.cells (noPkt.cells nilS) 28)) := by intro w; kernel_rfl
theorem build_pkt0 (k h : UInt8) : ∀ w, (Instr.build 28 #[(5, .bool true), (2, .int .u8 (k.toNat : Int)), (3, .int .u8 (h.toNat : Int))]).run Try.prog w = .ok (.agg ((pkt0 k h).cells nilS)) w := by intro w; kernel_rfl
theorem build_rd (g : Nat) (k h : UInt8) : ∀ w, (Instr.build 61 #[(0, .pointer (some ⟨g, 0, none⟩)), (1, .agg ((pkt0 k h).cells nilS))]).run Try.prog w = .ok (.agg (rdCells g (pkt0 k h) nilS)) w := by intro w; kernel_rfl
theorem Pkt.one (p : Pkt) (dv : Value) (h : dv.oneCell' = true) : (p.cells dv).all (·.oneCell') = true := by
  simp [Pkt.cells, Adr.cells, Pkt.rest, Value.oneCell', h] at *
  try exact h
end Go.Proofs.Ytlijgcmcpehplaa
