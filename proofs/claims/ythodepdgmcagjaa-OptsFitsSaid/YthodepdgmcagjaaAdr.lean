/- An address as a value of 17 cells. -/
import Derived.Test.YthodepdgmcagjaaU8
import Derived.StillTailTactics
namespace Go.Proofs.Ythodepdgmcagjaa
set_option linter.unusedVariables false
set_option linter.unusedSimpArgs false
open Go.RowKit

structure Adr where
  six : Bool
  b0 : UInt8
  b1 : UInt8
  b2 : UInt8
  b3 : UInt8
  b4 : UInt8
  b5 : UInt8
  b6 : UInt8
  b7 : UInt8
  b8 : UInt8
  b9 : UInt8
  b10 : UInt8
  b11 : UInt8
  b12 : UInt8
  b13 : UInt8
  b14 : UInt8
  b15 : UInt8
def Adr.bytes (a : Adr) : List UInt8 := [a.b0, a.b1, a.b2, a.b3, a.b4, a.b5, a.b6, a.b7, a.b8, a.b9, a.b10, a.b11, a.b12, a.b13, a.b14, a.b15]
def Adr.cells (a : Adr) : Array Value := #[.bool a.six, .int .u8 (a.b0.toNat : Int), .int .u8 (a.b1.toNat : Int), .int .u8 (a.b2.toNat : Int), .int .u8 (a.b3.toNat : Int), .int .u8 (a.b4.toNat : Int), .int .u8 (a.b5.toNat : Int), .int .u8 (a.b6.toNat : Int), .int .u8 (a.b7.toNat : Int), .int .u8 (a.b8.toNat : Int), .int .u8 (a.b9.toNat : Int), .int .u8 (a.b10.toNat : Int), .int .u8 (a.b11.toNat : Int), .int .u8 (a.b12.toNat : Int), .int .u8 (a.b13.toNat : Int), .int .u8 (a.b14.toNat : Int), .int .u8 (a.b15.toNat : Int)]
theorem Adr.cells_size (a : Adr) : a.cells.size = 17 := rfl
theorem Adr.bytes_length (a : Adr) : a.bytes.length = 16 := rfl
def Adr.val (a : Adr) : Value := .agg a.cells
theorem Adr.cells_byte (a : Adr) : ∀ (j : Nat) (v : Value), (by8 a.bytes)[j]? = some v → a.cells[1 + j]? = some v := by
  intro j v h
  have h2 : (#[Value.bool a.six] ++ (by8 a.bytes).toArray) = a.cells := rfl
  rw [← h2, Array.getElem?_append_right (by simp)]
  simpa using h
theorem Adr.cells_byte4 (a : Adr) : ∀ (j : Nat) (v : Value), (by8 (a.bytes.take 4))[j]? = some v → a.cells[1 + j]? = some v := by
  intro j v h
  refine a.cells_byte j v ?_
  rw [← by8_take, List.getElem?_take] at h
  split at h
  · exact h
  · cases h

/-- The same cells, the first one's value known. -/
def Adr.cellsF (a : Adr) (x : Bool) : Array Value := #[.bool x, .int .u8 (a.b0.toNat : Int), .int .u8 (a.b1.toNat : Int), .int .u8 (a.b2.toNat : Int), .int .u8 (a.b3.toNat : Int), .int .u8 (a.b4.toNat : Int), .int .u8 (a.b5.toNat : Int), .int .u8 (a.b6.toNat : Int), .int .u8 (a.b7.toNat : Int), .int .u8 (a.b8.toNat : Int), .int .u8 (a.b9.toNat : Int), .int .u8 (a.b10.toNat : Int), .int .u8 (a.b11.toNat : Int), .int .u8 (a.b12.toNat : Int), .int .u8 (a.b13.toNat : Int), .int .u8 (a.b14.toNat : Int), .int .u8 (a.b15.toNat : Int)]
theorem Adr.cellsF_eq (a : Adr) : a.cellsF a.six = a.cells := rfl
theorem Adr.byteF (a : Adr) (x : Bool) : ∀ (j : Nat) (v : Value), (by8 a.bytes)[j]? = some v → (a.cellsF x)[1 + j]? = some v := by
  intro j v h
  have h2 : (#[Value.bool x] ++ (by8 a.bytes).toArray) = a.cellsF x := rfl
  rw [← h2, Array.getElem?_append_right (by simp)]
  simpa using h
theorem Adr.byte4F (a : Adr) (x : Bool) : ∀ (j : Nat) (v : Value), (by8 (a.bytes.take 4))[j]? = some v → (a.cellsF x)[1 + j]? = some v := by
  intro j v h
  refine a.byteF x j v ?_
  rw [← by8_take, List.getElem?_take] at h
  split at h
  · exact h
  · cases h
theorem Adr.bytes4_length (a : Adr) : (a.bytes.take 4).length = 4 := rfl
theorem u8wrap_nat (n : Nat) : IntKind.u8.wrap (n : Int) = ((UInt8.ofNat n).toNat : Int) := by rw [IntKind.wrap_u8, UInt8.toNat_ofNat']; omega
/-- What a check sum has ahead of a load. -/
def pseudoS (s d : Adr) (proto : UInt8) (size : Nat) : List UInt8 :=
  if s.six = false ∧ d.six = false then s.bytes.take 4 ++ d.bytes.take 4 ++ [0, proto, UInt8.ofNat (size / 256), UInt8.ofNat size]
  else s.bytes ++ d.bytes ++ [UInt8.ofNat (size / 16777216), UInt8.ofNat (size / 65536), UInt8.ofNat (size / 256), UInt8.ofNat size, 0, 0, 0, proto]
theorem pseudoS_even (s d : Adr) (proto : UInt8) (size : Nat) : (pseudoS s d proto size).length % 2 = 0 := by
  unfold pseudoS; split <;> simp [Adr.bytes_length]
theorem pseudoS_len (s d : Adr) (proto : UInt8) (size : Nat) : (pseudoS s d proto size).length ≤ 40 := by
  unfold pseudoS; split <;> simp [Adr.bytes_length]

end Go.Proofs.Ythodepdgmcagjaa
