/- New bytes: a slice that is made. -/
import Derived.Test.YtblkfpipmdfmkaaU8
import Derived.Test.YtblkfpipmdfmkaaBlk
import Derived.Laws.MakeOwn
namespace Go.Proofs.Ytblkfpipmdfmkaa
set_option linter.unusedVariables false
set_option linter.unusedSimpArgs false
open Go.RowKit

theorem made8 (n : Nat) : madeCells (Value.int .u8 0).cells n = (by8 (List.replicate n 0)).toArray := by
  apply Array.ext
  · simp [size_madeCells, by8]
  · intro k h1 h2
    simp only [madeCells, by8, Value.cells]
    simp [Nat.mod_one]
    rfl
theorem make8_any (n : Nat) (w : World) (hn : n ≤ 1000000) : (Instr.makeSlice 32 (.int .i64 (n : Int)) (.int .i64 (n : Int))).run Try.prog w = .ok (.slice (some ⟨w.heap.size, 0, none⟩) n n) (w.alloc (.cells (by8 (List.replicate n 0)).toArray 5)) := by
  obtain ⟨i0, hi, hz0, hz1, hz2⟩ := info_parts info_u8
  have := run_makeSlice (P := Try.prog) w 32 5 i0 _ Try.underlying32 hi hz0 .i64 .i64 (n : Int) (n : Int) (by omega) (Int.le_refl _) (by rw [hz1]; simp; omega) (by rw [hz2]; omega) (by omega)
  rw [this, hz1]
  simp only [Int.toNat_natCast, Nat.mul_one]
  rw [made8]
end Go.Proofs.Ytblkfpipmdfmkaa
