/- Packets in memory; walks: isPast, Known, May. -/
import Derived.Test.YtpcfgihomplehaaPktS
import Derived.Test.YtpcfgihomplehaaRegT
import Derived.Test.YtpcfgihomplehaaStruct
namespace Go.Proofs.Ytpcfgihomplehaa
set_option linter.unusedVariables false
set_option linter.unusedSimpArgs false
open Go.RowKit

def Pkt.rest (p : Pkt) (dv : Value) : List Value := [.int .u8 (p.proto.toNat : Int), .int .u8 (p.hops.toNat : Int), .int .u32 (p.id : Int), .bool p.whole, .bool p.more, .int .i64 p.off, dv]
def Pkt.cells (p : Pkt) (dv : Value) : Array Value := ⟨p.src.cells.toList ++ (p.dst.cells.toList ++ p.rest dv)⟩
def Pkt.v (p : Pkt) (dv : Value) : Value := .agg (p.cells dv)
theorem Pkt.cells_size (p : Pkt) (dv : Value) : (p.cells dv).size = 41 := rfl
theorem info_pkt (p : Pkt) (dv : Value) : (Try.prog.info? 28).map (·.size) = some (p.cells dv).size := by rw [Pkt.cells_size]; kernel_rfl
theorem Pkt.at_ (p : Pkt) (dv : Value) : (p.cells dv)[0]? = some (.bool p.src.six) ∧ (p.cells dv)[17]? = some (.bool p.dst.six) ∧ (p.cells dv)[34]? = some (.int .u8 (p.proto.toNat : Int)) ∧ (p.cells dv)[35]? = some (.int .u8 (p.hops.toNat : Int)) ∧
    (p.cells dv)[36]? = some (.int .u32 (p.id : Int)) ∧ (p.cells dv)[37]? = some (.bool p.whole) ∧ (p.cells dv)[38]? = some (.bool p.more) ∧ (p.cells dv)[39]? = some (.int .i64 p.off) ∧ (p.cells dv)[40]? = some dv := ⟨rfl, rfl, rfl, rfl, rfl, rfl, rfl, rfl, rfl⟩
theorem pkt_cells {w : World} {b : Nat} {p : Pkt} {dv : Value} {T : TypeId} (h : w.heap[b]? = some (.cells (p.cells dv) T (0, 0))) :
    w.cell? ⟨b, 0, none⟩ = some (.bool p.src.six) ∧ w.cell? ⟨b, 17, none⟩ = some (.bool p.dst.six) ∧ w.cell? ⟨b, 34, none⟩ = some (.int .u8 (p.proto.toNat : Int)) ∧ w.cell? ⟨b, 35, none⟩ = some (.int .u8 (p.hops.toNat : Int)) ∧
    w.cell? ⟨b, 36, none⟩ = some (.int .u32 (p.id : Int)) ∧ w.cell? ⟨b, 37, none⟩ = some (.bool p.whole) ∧ w.cell? ⟨b, 38, none⟩ = some (.bool p.more) ∧ w.cell? ⟨b, 39, none⟩ = some (.int .i64 p.off) ∧ w.cell? ⟨b, 40, none⟩ = some dv := by
  obtain ⟨h0, h1, h2, h3, h4, h5, h6, h7, h8⟩ := p.at_ dv
  exact ⟨(cellRow h _).trans h0, (cellRow h _).trans h1, (cellRow h _).trans h2, (cellRow h _).trans h3, (cellRow h _).trans h4, (cellRow h _).trans h5, (cellRow h _).trans h6, (cellRow h _).trans h7, (cellRow h _).trans h8⟩
end Go.Proofs.Ytpcfgihomplehaa
