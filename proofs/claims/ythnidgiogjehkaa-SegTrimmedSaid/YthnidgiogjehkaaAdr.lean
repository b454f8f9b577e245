/- An address as a value of 17 cells. -/
import Derived.Test.YthnidgiogjehkaaU8
import Derived.StillTailTactics
namespace Go.Proofs.Ythnidgiogjehkaa
set_option linter.unusedVariables false
set_option linter.unusedSimpArgs false
set_option maxRecDepth 20000
open Go.RowKit

structure Adr where
  six : Bool
  b0 : UInt8
  b1 : UInt8
  b2 : UInt8
  b3 : UInt8
  b4 : UInt8
  b5 : UInt8
  b6 : UInt8
  b7 : UInt8
  b8 : UInt8
  b9 : UInt8
  b10 : UInt8
  b11 : UInt8
  b12 : UInt8
  b13 : UInt8
  b14 : UInt8
  b15 : UInt8
def Adr.bytes (a : Adr) : List UInt8 := [a.b0, a.b1, a.b2, a.b3, a.b4, a.b5, a.b6, a.b7, a.b8, a.b9, a.b10, a.b11, a.b12, a.b13, a.b14, a.b15]
def Adr.cells (a : Adr) : Array Value := #[.bool a.six, .int .u8 (a.b0.toNat : Int), .int .u8 (a.b1.toNat : Int), .int .u8 (a.b2.toNat : Int), .int .u8 (a.b3.toNat : Int), .int .u8 (a.b4.toNat : Int), .int .u8 (a.b5.toNat : Int), .int .u8 (a.b6.toNat : Int), .int .u8 (a.b7.toNat : Int), .int .u8 (a.b8.toNat : Int), .int .u8 (a.b9.toNat : Int), .int .u8 (a.b10.toNat : Int), .int .u8 (a.b11.toNat : Int), .int .u8 (a.b12.toNat : Int), .int .u8 (a.b13.toNat : Int), .int .u8 (a.b14.toNat : Int), .int .u8 (a.b15.toNat : Int)]
theorem Adr.cells_size (a : Adr) : a.cells.size = 17 := rfl
theorem info_addr (a : Adr) : (Try.prog.info? 24).map (·.size) = some a.cells.size := by rw [Adr.cells_size]; kernel_rfl
theorem Adr.bytes_length (a : Adr) : a.bytes.length = 16 := rfl
def Adr.val (a : Adr) : Value := .agg a.cells
theorem Adr.cells_byte (a : Adr) : ∀ (j : Nat) (v : Value), (by8 a.bytes)[j]? = some v → a.cells[1 + j]? = some v := by
  intro j v h
  have h2 : (#[Value.bool a.six] ++ (by8 a.bytes).toArray) = a.cells := rfl
  rw [← h2, Array.getElem?_append_right (by simp)]
  simpa using h
theorem Adr.cells_byte4 (a : Adr) : ∀ (j : Nat) (v : Value), (by8 (a.bytes.take 4))[j]? = some v → a.cells[1 + j]? = some v := by
  intro j v h
  refine a.cells_byte j v ?_
  rw [← by8_take, List.getElem?_take] at h
  split at h
  · exact h
  · cases h

/-- The same cells, the first one's value known. -/
def Adr.cellsF (a : Adr) (x : Bool) : Array Value := #[.bool x, .int .u8 (a.b0.toNat : Int), .int .u8 (a.b1.toNat : Int), .int .u8 (a.b2.toNat : Int), .int .u8 (a.b3.toNat : Int), .int .u8 (a.b4.toNat : Int), .int .u8 (a.b5.toNat : Int), .int .u8 (a.b6.toNat : Int), .int .u8 (a.b7.toNat : Int), .int .u8 (a.b8.toNat : Int), .int .u8 (a.b9.toNat : Int), .int .u8 (a.b10.toNat : Int), .int .u8 (a.b11.toNat : Int), .int .u8 (a.b12.toNat : Int), .int .u8 (a.b13.toNat : Int), .int .u8 (a.b14.toNat : Int), .int .u8 (a.b15.toNat : Int)]
theorem Adr.cellsF_eq (a : Adr) : a.cellsF a.six = a.cells := rfl
theorem Adr.byteF (a : Adr) (x : Bool) : ∀ (j : Nat) (v : Value), (by8 a.bytes)[j]? = some v → (a.cellsF x)[1 + j]? = some v := by
  intro j v h
  have h2 : (#[Value.bool x] ++ (by8 a.bytes).toArray) = a.cellsF x := rfl
  rw [← h2, Array.getElem?_append_right (by simp)]
  simpa using h
theorem Adr.byte4F (a : Adr) (x : Bool) : ∀ (j : Nat) (v : Value), (by8 (a.bytes.take 4))[j]? = some v → (a.cellsF x)[1 + j]? = some v := by
  intro j v h
  refine a.byteF x j v ?_
  rw [← by8_take, List.getElem?_take] at h
  split at h
  · exact h
  · cases h
theorem Adr.bytes4_length (a : Adr) : (a.bytes.take 4).length = 4 := rfl
theorem u8wrap_nat (n : Nat) : IntKind.u8.wrap (n : Int) = ((UInt8.ofNat n).toNat : Int) := by rw [IntKind.wrap_u8, UInt8.toNat_ofNat']; omega
/-- What a check sum has ahead of a load. -/
def pseudoS (s d : Adr) (proto : UInt8) (size : Nat) : List UInt8 :=
  if s.six = false ∧ d.six = false then s.bytes.take 4 ++ d.bytes.take 4 ++ [0, proto, UInt8.ofNat (size / 256), UInt8.ofNat size]
  else s.bytes ++ d.bytes ++ [UInt8.ofNat (size / 16777216), UInt8.ofNat (size / 65536), UInt8.ofNat (size / 256), UInt8.ofNat size, 0, 0, 0, proto]
theorem pseudoS_even (s d : Adr) (proto : UInt8) (size : Nat) : (pseudoS s d proto size).length % 2 = 0 := by
  unfold pseudoS; split <;> simp [Adr.bytes_length]
theorem pseudoS_len (s d : Adr) (proto : UInt8) (size : Nat) : (pseudoS s d proto size).length ≤ 40 := by
  unfold pseudoS; split <;> simp [Adr.bytes_length]

set_option maxHeartbeats 800000 in
theorem pseudo_44 (s d : Adr) (p : UInt8) (size : Nat) (w : World) (hs : size ≤ 4294967295) (h1 : s.six = false) (h2 : d.six = false) :
    Calls Try.prog 55 #[s.val, d.val, .int .u8 (p.toNat : Int), .int .i64 (size : Int)] w fun e w' => ∃ A c, e = .returned (.slice A (pseudoS s d p size).length c) ∧ OB w' w.heap.size (.slice A (pseudoS s d p size).length c) (pseudoS s d p size) ∧ Below w.heap.size w w' := by
  have hp : pseudoS s d p size = (s.bytes.take 4) ++ (d.bytes.take 4) ++ [0, p, UInt8.ofNat (size / 256), UInt8.ofNat size] := by unfold pseudoS; simp [h1, h2]
  unfold Adr.val Adr.cells
  go_enter Try.func55, Try.ntmps55
  have v0 := u8wrap_nat size
  have v1 : IntKind.u8.wrap ((size : Int) / 256) = ((UInt8.ofNat (size / 256)).toNat : Int) := by rw [← u8wrap_nat]; rfl
  obtain ⟨L, hL⟩ : ∃ L, (s.bytes.take 4) ++ (d.bytes.take 4) = L := ⟨_, rfl⟩
  have hll : L.length = 8 := by rw [← hL]; simp [Adr.bytes_length]
  have HL := hid hL
  have HLL := hid hll
  have HP := hid hp
  clear hL hll hp
  go_wp2
  change Code.wp _ _ _ _ ((w.alloc (.cells (s.cellsF false) 24)).alloc (.cells (d.cellsF false) 24))
  obtain ⟨W, hW, f0, f1, fb, fs⟩ := two_blocks w (.cells (s.cellsF false) 24) (.cells (d.cellsF false) 24)
  rw [← hW]
  clear hW
  go_still_tail 4, (by kernel_rfl)
  change wpList _ _ _ _ _ W.drew
  have f0 : W.drew.heap[w.heap.size]? = some (.cells (s.cellsF false) 24) := f0
  have f1 : W.drew.heap[w.heap.size + 1]? = some (.cells (d.cellsF false) 24) := f1
  have fb : Below w.heap.size w W.drew := fb.drew
  have fs : W.drew.heap.size = w.heap.size + 2 := fs
  generalize W.drew = W1 at f0 f1 fb fs ⊢
  refine append_u8_full (.tmp 20) (.tmp 22) (s.bytes.take 4) (d.bytes.take 4) L HL.out rfl rfl rfl rfl
    (RB.inBlock f0 rfl (Nat.le_refl 4) (by omega) (Adr.byte4F s false)) (by rw [Adr.bytes4_length, Adr.bytes4_length]; omega) (by simp)
    (RB.inBlock f1 rfl (by decide : 4 ≤ 16) (by omega) (Adr.byte4F d false)) (by show 4 + 4 ≤ _; omega) ?_
  intro A1 c1 W2 ho1 hb1
  have fb2 := below_after fb hb1 (Nat.le_refl _)
  have fs2 := hb1.size
  have e3 := (OB.lower ho1 fb.size)
  go_wp2_with (at_builtin; refine append_u8 (.tmp 24) (.tmp 31) w.heap.size L [0, p, UInt8.ofNat (size / 256), UInt8.ofNat size] (pseudoS s d p size) (by rw [HL.out.symm, HP.out]) rfl rfl rfl rfl (e3.alloc _) (RB.new W2 _ _ _ _ 4 rfl rfl (by omega) rfl) (by rw [HLL.out]; simp) (by simp; omega) ?_; intro A4 c4 W4 ho4 hb4 _ _)
  go_ret
  exact ⟨A4, c4, rfl, ho4, fb2.trans ((below_alloc (Below.refl _ _) _ fb2.size).trans hb4)⟩

set_option maxHeartbeats 800000 in
theorem pseudo_46 (s d : Adr) (p : UInt8) (size : Nat) (w : World) (hs : size ≤ 4294967295) (h1 : s.six = false) (h2 : d.six = true) :
    Calls Try.prog 55 #[s.val, d.val, .int .u8 (p.toNat : Int), .int .i64 (size : Int)] w fun e w' => ∃ A c, e = .returned (.slice A (pseudoS s d p size).length c) ∧ OB w' w.heap.size (.slice A (pseudoS s d p size).length c) (pseudoS s d p size) ∧ Below w.heap.size w w' := by
  have hp : pseudoS s d p size = s.bytes ++ d.bytes ++ [UInt8.ofNat (size / 16777216), UInt8.ofNat (size / 65536), UInt8.ofNat (size / 256), UInt8.ofNat size, 0, 0, 0, p] := by unfold pseudoS; simp [h1, h2]
  unfold Adr.val Adr.cells
  go_enter Try.func55, Try.ntmps55
  have v0 := u8wrap_nat size
  have v1 : IntKind.u8.wrap ((size : Int) / 256) = ((UInt8.ofNat (size / 256)).toNat : Int) := by rw [← u8wrap_nat]; rfl
  have v2 : IntKind.u8.wrap ((size : Int) / 65536) = ((UInt8.ofNat (size / 65536)).toNat : Int) := by rw [← u8wrap_nat]; rfl
  have v3 : IntKind.u8.wrap ((size : Int) / 16777216) = ((UInt8.ofNat (size / 16777216)).toNat : Int) := by rw [← u8wrap_nat]; rfl
  obtain ⟨L, hL⟩ : ∃ L, s.bytes ++ d.bytes = L := ⟨_, rfl⟩
  have hll : L.length = 32 := by rw [← hL]; simp [Adr.bytes_length]
  have HL := hid hL
  have HLL := hid hll
  have HP := hid hp
  clear hL hll hp
  go_wp2
  change Code.wp _ _ _ _ ((w.alloc (.cells (s.cellsF false) 24)).alloc (.cells (d.cellsF true) 24))
  obtain ⟨W, hW, f0, f1, fb, fs⟩ := two_blocks w (.cells (s.cellsF false) 24) (.cells (d.cellsF true) 24)
  rw [← hW]
  clear hW
  go_still_tail 4, (by kernel_rfl)
  change wpList _ _ _ _ _ W.drew
  have f0 : W.drew.heap[w.heap.size]? = some (.cells (s.cellsF false) 24) := f0
  have f1 : W.drew.heap[w.heap.size + 1]? = some (.cells (d.cellsF true) 24) := f1
  have fb : Below w.heap.size w W.drew := fb.drew
  have fs : W.drew.heap.size = w.heap.size + 2 := fs
  generalize W.drew = W1 at f0 f1 fb fs ⊢
  refine append_u8_full (.tmp 34) (.tmp 36) s.bytes d.bytes L HL.out rfl rfl rfl rfl
    (RB.inBlock f0 rfl (Nat.le_refl 16) (by omega) (Adr.byteF s false)) (by rw [Adr.bytes_length, Adr.bytes_length]; omega) (by simp)
    (RB.inBlock f1 rfl (by decide : 16 ≤ 16) (by omega) (Adr.byteF d true)) (by show 16 + 16 ≤ _; omega) ?_
  intro A1 c1 W2 ho1 hb1
  have fb2 := below_after fb hb1 (Nat.le_refl _)
  have fs2 := hb1.size
  have e3 := (OB.lower ho1 fb.size)
  go_wp2_with (at_builtin; refine append_u8 (.tmp 38) (.tmp 51) w.heap.size L [UInt8.ofNat (size / 16777216), UInt8.ofNat (size / 65536), UInt8.ofNat (size / 256), UInt8.ofNat size, 0, 0, 0, p] (pseudoS s d p size) (by rw [HL.out.symm, HP.out]) rfl rfl rfl rfl (e3.alloc _) (RB.new W2 _ _ _ _ 8 rfl rfl (by omega) rfl) (by rw [HLL.out]; simp) (by simp; omega) ?_; intro A4 c4 W4 ho4 hb4 _ _)
  go_ret
  exact ⟨A4, c4, rfl, ho4, fb2.trans ((below_alloc (Below.refl _ _) _ fb2.size).trans hb4)⟩

set_option maxHeartbeats 800000 in
theorem pseudo_64 (s d : Adr) (p : UInt8) (size : Nat) (w : World) (hs : size ≤ 4294967295) (h1 : s.six = true) (h2 : d.six = false) :
    Calls Try.prog 55 #[s.val, d.val, .int .u8 (p.toNat : Int), .int .i64 (size : Int)] w fun e w' => ∃ A c, e = .returned (.slice A (pseudoS s d p size).length c) ∧ OB w' w.heap.size (.slice A (pseudoS s d p size).length c) (pseudoS s d p size) ∧ Below w.heap.size w w' := by
  have hp : pseudoS s d p size = s.bytes ++ d.bytes ++ [UInt8.ofNat (size / 16777216), UInt8.ofNat (size / 65536), UInt8.ofNat (size / 256), UInt8.ofNat size, 0, 0, 0, p] := by unfold pseudoS; simp [h1, h2]
  unfold Adr.val Adr.cells
  go_enter Try.func55, Try.ntmps55
  have v0 := u8wrap_nat size
  have v1 : IntKind.u8.wrap ((size : Int) / 256) = ((UInt8.ofNat (size / 256)).toNat : Int) := by rw [← u8wrap_nat]; rfl
  have v2 : IntKind.u8.wrap ((size : Int) / 65536) = ((UInt8.ofNat (size / 65536)).toNat : Int) := by rw [← u8wrap_nat]; rfl
  have v3 : IntKind.u8.wrap ((size : Int) / 16777216) = ((UInt8.ofNat (size / 16777216)).toNat : Int) := by rw [← u8wrap_nat]; rfl
  obtain ⟨L, hL⟩ : ∃ L, s.bytes ++ d.bytes = L := ⟨_, rfl⟩
  have hll : L.length = 32 := by rw [← hL]; simp [Adr.bytes_length]
  have HL := hid hL
  have HLL := hid hll
  have HP := hid hp
  clear hL hll hp
  go_wp2
  change Code.wp _ _ _ _ ((w.alloc (.cells (s.cellsF true) 24)).alloc (.cells (d.cellsF false) 24))
  obtain ⟨W, hW, f0, f1, fb, fs⟩ := two_blocks w (.cells (s.cellsF true) 24) (.cells (d.cellsF false) 24)
  rw [← hW]
  clear hW
  go_still_tail 4, (by kernel_rfl)
  change wpList _ _ _ _ _ W.drew
  have f0 : W.drew.heap[w.heap.size]? = some (.cells (s.cellsF true) 24) := f0
  have f1 : W.drew.heap[w.heap.size + 1]? = some (.cells (d.cellsF false) 24) := f1
  have fb : Below w.heap.size w W.drew := fb.drew
  have fs : W.drew.heap.size = w.heap.size + 2 := fs
  generalize W.drew = W1 at f0 f1 fb fs ⊢
  refine append_u8_full (.tmp 34) (.tmp 36) s.bytes d.bytes L HL.out rfl rfl rfl rfl
    (RB.inBlock f0 rfl (Nat.le_refl 16) (by omega) (Adr.byteF s true)) (by rw [Adr.bytes_length, Adr.bytes_length]; omega) (by simp)
    (RB.inBlock f1 rfl (by decide : 16 ≤ 16) (by omega) (Adr.byteF d false)) (by show 16 + 16 ≤ _; omega) ?_
  intro A1 c1 W2 ho1 hb1
  have fb2 := below_after fb hb1 (Nat.le_refl _)
  have fs2 := hb1.size
  have e3 := (OB.lower ho1 fb.size)
  go_wp2_with (at_builtin; refine append_u8 (.tmp 38) (.tmp 51) w.heap.size L [UInt8.ofNat (size / 16777216), UInt8.ofNat (size / 65536), UInt8.ofNat (size / 256), UInt8.ofNat size, 0, 0, 0, p] (pseudoS s d p size) (by rw [HL.out.symm, HP.out]) rfl rfl rfl rfl (e3.alloc _) (RB.new W2 _ _ _ _ 8 rfl rfl (by omega) rfl) (by rw [HLL.out]; simp) (by simp; omega) ?_; intro A4 c4 W4 ho4 hb4 _ _)
  go_ret
  exact ⟨A4, c4, rfl, ho4, fb2.trans ((below_alloc (Below.refl _ _) _ fb2.size).trans hb4)⟩

set_option maxHeartbeats 800000 in
theorem pseudo_66 (s d : Adr) (p : UInt8) (size : Nat) (w : World) (hs : size ≤ 4294967295) (h1 : s.six = true) (h2 : d.six = true) :
    Calls Try.prog 55 #[s.val, d.val, .int .u8 (p.toNat : Int), .int .i64 (size : Int)] w fun e w' => ∃ A c, e = .returned (.slice A (pseudoS s d p size).length c) ∧ OB w' w.heap.size (.slice A (pseudoS s d p size).length c) (pseudoS s d p size) ∧ Below w.heap.size w w' := by
  have hp : pseudoS s d p size = s.bytes ++ d.bytes ++ [UInt8.ofNat (size / 16777216), UInt8.ofNat (size / 65536), UInt8.ofNat (size / 256), UInt8.ofNat size, 0, 0, 0, p] := by unfold pseudoS; simp [h1, h2]
  unfold Adr.val Adr.cells
  go_enter Try.func55, Try.ntmps55
  have v0 := u8wrap_nat size
  have v1 : IntKind.u8.wrap ((size : Int) / 256) = ((UInt8.ofNat (size / 256)).toNat : Int) := by rw [← u8wrap_nat]; rfl
  have v2 : IntKind.u8.wrap ((size : Int) / 65536) = ((UInt8.ofNat (size / 65536)).toNat : Int) := by rw [← u8wrap_nat]; rfl
  have v3 : IntKind.u8.wrap ((size : Int) / 16777216) = ((UInt8.ofNat (size / 16777216)).toNat : Int) := by rw [← u8wrap_nat]; rfl
  obtain ⟨L, hL⟩ : ∃ L, s.bytes ++ d.bytes = L := ⟨_, rfl⟩
  have hll : L.length = 32 := by rw [← hL]; simp [Adr.bytes_length]
  have HL := hid hL
  have HLL := hid hll
  have HP := hid hp
  clear hL hll hp
  go_wp2
  change Code.wp _ _ _ _ ((w.alloc (.cells (s.cellsF true) 24)).alloc (.cells (d.cellsF true) 24))
  obtain ⟨W, hW, f0, f1, fb, fs⟩ := two_blocks w (.cells (s.cellsF true) 24) (.cells (d.cellsF true) 24)
  rw [← hW]
  clear hW
  go_still_tail 4, (by kernel_rfl)
  change wpList _ _ _ _ _ W.drew
  have f0 : W.drew.heap[w.heap.size]? = some (.cells (s.cellsF true) 24) := f0
  have f1 : W.drew.heap[w.heap.size + 1]? = some (.cells (d.cellsF true) 24) := f1
  have fb : Below w.heap.size w W.drew := fb.drew
  have fs : W.drew.heap.size = w.heap.size + 2 := fs
  generalize W.drew = W1 at f0 f1 fb fs ⊢
  refine append_u8_full (.tmp 34) (.tmp 36) s.bytes d.bytes L HL.out rfl rfl rfl rfl
    (RB.inBlock f0 rfl (Nat.le_refl 16) (by omega) (Adr.byteF s true)) (by rw [Adr.bytes_length, Adr.bytes_length]; omega) (by simp)
    (RB.inBlock f1 rfl (by decide : 16 ≤ 16) (by omega) (Adr.byteF d true)) (by show 16 + 16 ≤ _; omega) ?_
  intro A1 c1 W2 ho1 hb1
  have fb2 := below_after fb hb1 (Nat.le_refl _)
  have fs2 := hb1.size
  have e3 := (OB.lower ho1 fb.size)
  go_wp2_with (at_builtin; refine append_u8 (.tmp 38) (.tmp 51) w.heap.size L [UInt8.ofNat (size / 16777216), UInt8.ofNat (size / 65536), UInt8.ofNat (size / 256), UInt8.ofNat size, 0, 0, 0, p] (pseudoS s d p size) (by rw [HL.out.symm, HP.out]) rfl rfl rfl rfl (e3.alloc _) (RB.new W2 _ _ _ _ 8 rfl rfl (by omega) rfl) (by rw [HLL.out]; simp) (by simp; omega) ?_; intro A4 c4 W4 ho4 hb4 _ _)
  go_ret
  exact ⟨A4, c4, rfl, ho4, fb2.trans ((below_alloc (Below.refl _ _) _ fb2.size).trans hb4)⟩

theorem pseudo_any (s d : Adr) (p : UInt8) (size : Nat) (w : World) (hs : size ≤ 4294967295) :
    Calls Try.prog 55 #[.agg s.cells, .agg d.cells, .int .u8 (p.toNat : Int), .int .i64 (size : Int)] w fun e w' => ∃ A c, e = .returned (.slice A (pseudoS s d p size).length c) ∧ OB w' w.heap.size (.slice A (pseudoS s d p size).length c) (pseudoS s d p size) ∧ Below w.heap.size w w' := by
  cases h1 : s.six <;> cases h2 : d.six
  · exact pseudo_44 s d p size w hs h1 h2
  · exact pseudo_46 s d p size w hs h1 h2
  · exact pseudo_64 s d p size w hs h1 h2
  · exact pseudo_66 s d p size w hs h1 h2
end Go.Proofs.Ythnidgiogjehkaa
