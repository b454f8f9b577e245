/- Walk: the reference's pseudo header. -/
import Derived.Test.YtlgkgdgmhcckfaaAdr
import Derived.Deep.RegionHeld3
namespace Go.Proofs.Ytlgkgdgmhcckfaa
set_option linter.unusedVariables false
set_option linter.unusedSimpArgs false
open Go.RowKit

set_option maxHeartbeats 1000000 in
theorem rpseudo_tt (s d : Adr) (p : UInt8) (size : Nat) (w : World) (hs : size ≤ 4294967295) (h1 : s.six = true) (h2 : d.six = true) :
    Calls Try.prog 43 #[s.val, d.val, .int .u8 (p.toNat : Int), .int .i64 (size : Int)] w fun e w' => ∃ A c, e = .returned (.slice A (pseudoS s d p size).length c) ∧ OB w' w.heap.size (.slice A (pseudoS s d p size).length c) (pseudoS s d p size) ∧ Below w.heap.size w w' := by
  have hp : pseudoS s d p size = s.bytes ++ d.bytes ++ [UInt8.ofNat (size / 16777216), UInt8.ofNat (size / 65536), UInt8.ofNat (size / 256), UInt8.ofNat size, 0, 0, 0, p] := by unfold pseudoS; simp [h1, h2]
  unfold Adr.val Adr.cells
  go_enter Try.func43, Try.ntmps43
  have v0 := u8wrap_nat size
  have v1 : IntKind.u8.wrap ((size : Int) / 256) = ((UInt8.ofNat (size / 256)).toNat : Int) := by rw [← u8wrap_nat]; rfl
  have v2 : IntKind.u8.wrap ((size : Int) / 65536) = ((UInt8.ofNat (size / 65536)).toNat : Int) := by rw [← u8wrap_nat]; rfl
  have v3 : IntKind.u8.wrap ((size : Int) / 16777216) = ((UInt8.ofNat (size / 16777216)).toNat : Int) := by rw [← u8wrap_nat]; rfl
  obtain ⟨L, hL⟩ : ∃ L, s.bytes ++ d.bytes = L := ⟨_, rfl⟩
  have hll : L.length = 32 := by rw [← hL]; rfl
  have HL := hid hL
  have HLL := hid hll
  have HP := hid hp
  clear hL hll hp
  go_wp2_with fail
  change Code.wp _ _ _ _ ((w.alloc (.cells (s.cellsF true) 29)).alloc (.cells (d.cellsF true) 29))
  obtain ⟨W, hW, f0, f1, fb, fs⟩ := two_blocks w (.cells (s.cellsF true) 29) (.cells (d.cellsF true) 29)
  rw [← hW]
  clear hW
  have f0 : W.drew.heap[w.heap.size]? = some (.cells (s.cellsF true) 29) := f0
  have f1 : W.drew.heap[w.heap.size + 1]? = some (.cells (d.cellsF true) 29) := f1
  have fb : Below w.heap.size w W.drew := fb.drew
  have fs : W.drew.heap.size = w.heap.size + 2 := fs
  go_region_held3 (fun _ => True) (trivial)
    (first
      | (refine step_append_u8 (.tmp 19) (.tmp 21) (w.heap.size + 2) [] s.bytes s.bytes rfl rfl rfl rfl rfl (OB.nil _ _) (RB.inBlock f0 rfl (by decide : 16 ≤ 16) (by omega) (Adr.byteF s true)) (by show 0 + 16 ≤ _; omega) (Nat.le_of_eq fs.symm) ?_; intro A1 c1 W2 ho1 hb1 _ _; have fb2 := fb.trans (hb1.mono (by omega)); have fs2 : w.heap.size + 2 ≤ W2.heap.size := Nat.le_trans (Nat.le_of_eq fs.symm) hb1.size; have g1 := (hb1.block (w.heap.size + 1) (by omega)).trans f1)
      | (refine step_append_u8 (.tmp 22) (.tmp 24) (w.heap.size + 2) s.bytes d.bytes L HL.out rfl rfl rfl rfl ho1 (RB.inBlock g1 rfl (by decide : 16 ≤ 16) (by omega) (Adr.byteF d true)) (by show 16 + 16 ≤ _; omega) fs2 ?_; intro A2 c2 W3 ho2 hb2 _ _; have fb3 := fb2.trans (hb2.mono (by omega)); have fs3 : w.heap.size + 2 ≤ W3.heap.size := Nat.le_trans fs2 hb2.size)
      | fail)
  go_wp2_with (at_builtin; refine append_u8 (.tmp 26) (.tmp 39) (w.heap.size + 2) L [UInt8.ofNat (size / 16777216), UInt8.ofNat (size / 65536), UInt8.ofNat (size / 256), UInt8.ofNat size, 0, 0, 0, p] (pseudoS s d p size) (by rw [HL.out.symm, HP.out]) rfl rfl rfl rfl (ho2.alloc _) (RB.new W3 _ _ _ _ 8 rfl rfl (by omega) rfl) (by rw [HLL.out]; simp) (by simp; omega) ?_; intro A4 c4 W4 ho4 hb4 _ _)
  go_ret
  exact ⟨A4, c4, rfl, ho4.lower (by omega), fb3.trans ((below_alloc (Below.refl _ _) _ fb3.size).trans (hb4.mono (by omega)))⟩
set_option maxHeartbeats 1000000 in
theorem rpseudo_tf (s d : Adr) (p : UInt8) (size : Nat) (w : World) (hs : size ≤ 4294967295) (h1 : s.six = true) (h2 : d.six = false) :
    Calls Try.prog 43 #[s.val, d.val, .int .u8 (p.toNat : Int), .int .i64 (size : Int)] w fun e w' => ∃ A c, e = .returned (.slice A (pseudoS s d p size).length c) ∧ OB w' w.heap.size (.slice A (pseudoS s d p size).length c) (pseudoS s d p size) ∧ Below w.heap.size w w' := by
  have hp : pseudoS s d p size = s.bytes ++ d.bytes ++ [UInt8.ofNat (size / 16777216), UInt8.ofNat (size / 65536), UInt8.ofNat (size / 256), UInt8.ofNat size, 0, 0, 0, p] := by unfold pseudoS; simp [h1, h2]
  unfold Adr.val Adr.cells
  go_enter Try.func43, Try.ntmps43
  have v0 := u8wrap_nat size
  have v1 : IntKind.u8.wrap ((size : Int) / 256) = ((UInt8.ofNat (size / 256)).toNat : Int) := by rw [← u8wrap_nat]; rfl
  have v2 : IntKind.u8.wrap ((size : Int) / 65536) = ((UInt8.ofNat (size / 65536)).toNat : Int) := by rw [← u8wrap_nat]; rfl
  have v3 : IntKind.u8.wrap ((size : Int) / 16777216) = ((UInt8.ofNat (size / 16777216)).toNat : Int) := by rw [← u8wrap_nat]; rfl
  obtain ⟨L, hL⟩ : ∃ L, s.bytes ++ d.bytes = L := ⟨_, rfl⟩
  have hll : L.length = 32 := by rw [← hL]; rfl
  have HL := hid hL
  have HLL := hid hll
  have HP := hid hp
  clear hL hll hp
  go_wp2_with fail
  change Code.wp _ _ _ _ ((w.alloc (.cells (s.cellsF true) 29)).alloc (.cells (d.cellsF false) 29))
  obtain ⟨W, hW, f0, f1, fb, fs⟩ := two_blocks w (.cells (s.cellsF true) 29) (.cells (d.cellsF false) 29)
  rw [← hW]
  clear hW
  have f0 : W.drew.heap[w.heap.size]? = some (.cells (s.cellsF true) 29) := f0
  have f1 : W.drew.heap[w.heap.size + 1]? = some (.cells (d.cellsF false) 29) := f1
  have fb : Below w.heap.size w W.drew := fb.drew
  have fs : W.drew.heap.size = w.heap.size + 2 := fs
  go_region_held3 (fun _ => True) (trivial)
    (first
      | (refine step_append_u8 (.tmp 19) (.tmp 21) (w.heap.size + 2) [] s.bytes s.bytes rfl rfl rfl rfl rfl (OB.nil _ _) (RB.inBlock f0 rfl (by decide : 16 ≤ 16) (by omega) (Adr.byteF s true)) (by show 0 + 16 ≤ _; omega) (Nat.le_of_eq fs.symm) ?_; intro A1 c1 W2 ho1 hb1 _ _; have fb2 := fb.trans (hb1.mono (by omega)); have fs2 : w.heap.size + 2 ≤ W2.heap.size := Nat.le_trans (Nat.le_of_eq fs.symm) hb1.size; have g1 := (hb1.block (w.heap.size + 1) (by omega)).trans f1)
      | (refine step_append_u8 (.tmp 22) (.tmp 24) (w.heap.size + 2) s.bytes d.bytes L HL.out rfl rfl rfl rfl ho1 (RB.inBlock g1 rfl (by decide : 16 ≤ 16) (by omega) (Adr.byteF d false)) (by show 16 + 16 ≤ _; omega) fs2 ?_; intro A2 c2 W3 ho2 hb2 _ _; have fb3 := fb2.trans (hb2.mono (by omega)); have fs3 : w.heap.size + 2 ≤ W3.heap.size := Nat.le_trans fs2 hb2.size)
      | fail)
  go_wp2_with (at_builtin; refine append_u8 (.tmp 26) (.tmp 39) (w.heap.size + 2) L [UInt8.ofNat (size / 16777216), UInt8.ofNat (size / 65536), UInt8.ofNat (size / 256), UInt8.ofNat size, 0, 0, 0, p] (pseudoS s d p size) (by rw [HL.out.symm, HP.out]) rfl rfl rfl rfl (ho2.alloc _) (RB.new W3 _ _ _ _ 8 rfl rfl (by omega) rfl) (by rw [HLL.out]; simp) (by simp; omega) ?_; intro A4 c4 W4 ho4 hb4 _ _)
  go_ret
  exact ⟨A4, c4, rfl, ho4.lower (by omega), fb3.trans ((below_alloc (Below.refl _ _) _ fb3.size).trans (hb4.mono (by omega)))⟩
set_option maxHeartbeats 1000000 in
theorem rpseudo_ft (s d : Adr) (p : UInt8) (size : Nat) (w : World) (hs : size ≤ 4294967295) (h1 : s.six = false) (h2 : d.six = true) :
    Calls Try.prog 43 #[s.val, d.val, .int .u8 (p.toNat : Int), .int .i64 (size : Int)] w fun e w' => ∃ A c, e = .returned (.slice A (pseudoS s d p size).length c) ∧ OB w' w.heap.size (.slice A (pseudoS s d p size).length c) (pseudoS s d p size) ∧ Below w.heap.size w w' := by
  have hp : pseudoS s d p size = s.bytes ++ d.bytes ++ [UInt8.ofNat (size / 16777216), UInt8.ofNat (size / 65536), UInt8.ofNat (size / 256), UInt8.ofNat size, 0, 0, 0, p] := by unfold pseudoS; simp [h1, h2]
  unfold Adr.val Adr.cells
  go_enter Try.func43, Try.ntmps43
  have v0 := u8wrap_nat size
  have v1 : IntKind.u8.wrap ((size : Int) / 256) = ((UInt8.ofNat (size / 256)).toNat : Int) := by rw [← u8wrap_nat]; rfl
  have v2 : IntKind.u8.wrap ((size : Int) / 65536) = ((UInt8.ofNat (size / 65536)).toNat : Int) := by rw [← u8wrap_nat]; rfl
  have v3 : IntKind.u8.wrap ((size : Int) / 16777216) = ((UInt8.ofNat (size / 16777216)).toNat : Int) := by rw [← u8wrap_nat]; rfl
  obtain ⟨L, hL⟩ : ∃ L, s.bytes ++ d.bytes = L := ⟨_, rfl⟩
  have hll : L.length = 32 := by rw [← hL]; rfl
  have HL := hid hL
  have HLL := hid hll
  have HP := hid hp
  clear hL hll hp
  go_wp2_with fail
  change Code.wp _ _ _ _ ((w.alloc (.cells (s.cellsF false) 29)).alloc (.cells (d.cellsF true) 29))
  obtain ⟨W, hW, f0, f1, fb, fs⟩ := two_blocks w (.cells (s.cellsF false) 29) (.cells (d.cellsF true) 29)
  rw [← hW]
  clear hW
  have f0 : W.drew.heap[w.heap.size]? = some (.cells (s.cellsF false) 29) := f0
  have f1 : W.drew.heap[w.heap.size + 1]? = some (.cells (d.cellsF true) 29) := f1
  have fb : Below w.heap.size w W.drew := fb.drew
  have fs : W.drew.heap.size = w.heap.size + 2 := fs
  go_region_held3 (fun _ => True) (trivial)
    (first
      | (refine step_append_u8 (.tmp 19) (.tmp 21) (w.heap.size + 2) [] s.bytes s.bytes rfl rfl rfl rfl rfl (OB.nil _ _) (RB.inBlock f0 rfl (by decide : 16 ≤ 16) (by omega) (Adr.byteF s false)) (by show 0 + 16 ≤ _; omega) (Nat.le_of_eq fs.symm) ?_; intro A1 c1 W2 ho1 hb1 _ _; have fb2 := fb.trans (hb1.mono (by omega)); have fs2 : w.heap.size + 2 ≤ W2.heap.size := Nat.le_trans (Nat.le_of_eq fs.symm) hb1.size; have g1 := (hb1.block (w.heap.size + 1) (by omega)).trans f1)
      | (refine step_append_u8 (.tmp 22) (.tmp 24) (w.heap.size + 2) s.bytes d.bytes L HL.out rfl rfl rfl rfl ho1 (RB.inBlock g1 rfl (by decide : 16 ≤ 16) (by omega) (Adr.byteF d true)) (by show 16 + 16 ≤ _; omega) fs2 ?_; intro A2 c2 W3 ho2 hb2 _ _; have fb3 := fb2.trans (hb2.mono (by omega)); have fs3 : w.heap.size + 2 ≤ W3.heap.size := Nat.le_trans fs2 hb2.size)
      | fail)
  go_wp2_with (at_builtin; refine append_u8 (.tmp 26) (.tmp 39) (w.heap.size + 2) L [UInt8.ofNat (size / 16777216), UInt8.ofNat (size / 65536), UInt8.ofNat (size / 256), UInt8.ofNat size, 0, 0, 0, p] (pseudoS s d p size) (by rw [HL.out.symm, HP.out]) rfl rfl rfl rfl (ho2.alloc _) (RB.new W3 _ _ _ _ 8 rfl rfl (by omega) rfl) (by rw [HLL.out]; simp) (by simp; omega) ?_; intro A4 c4 W4 ho4 hb4 _ _)
  go_ret
  exact ⟨A4, c4, rfl, ho4.lower (by omega), fb3.trans ((below_alloc (Below.refl _ _) _ fb3.size).trans (hb4.mono (by omega)))⟩
set_option maxHeartbeats 1000000 in
theorem rpseudo_ff (s d : Adr) (p : UInt8) (size : Nat) (w : World) (hs : size ≤ 4294967295) (h1 : s.six = false) (h2 : d.six = false) :
    Calls Try.prog 43 #[s.val, d.val, .int .u8 (p.toNat : Int), .int .i64 (size : Int)] w fun e w' => ∃ A c, e = .returned (.slice A (pseudoS s d p size).length c) ∧ OB w' w.heap.size (.slice A (pseudoS s d p size).length c) (pseudoS s d p size) ∧ Below w.heap.size w w' := by
  have hp : pseudoS s d p size = s.bytes.take 4 ++ d.bytes.take 4 ++ [0, p, UInt8.ofNat (size / 256), UInt8.ofNat size] := by unfold pseudoS; simp [h1, h2]
  unfold Adr.val Adr.cells
  go_enter Try.func43, Try.ntmps43
  have v0 := u8wrap_nat size
  have v1 : IntKind.u8.wrap ((size : Int) / 256) = ((UInt8.ofNat (size / 256)).toNat : Int) := by rw [← u8wrap_nat]; rfl
  have v2 : IntKind.u8.wrap ((size : Int) / 65536) = ((UInt8.ofNat (size / 65536)).toNat : Int) := by rw [← u8wrap_nat]; rfl
  have v3 : IntKind.u8.wrap ((size : Int) / 16777216) = ((UInt8.ofNat (size / 16777216)).toNat : Int) := by rw [← u8wrap_nat]; rfl
  obtain ⟨L, hL⟩ : ∃ L, s.bytes.take 4 ++ d.bytes.take 4 = L := ⟨_, rfl⟩
  have hll : L.length = 8 := by rw [← hL]; rfl
  have HL := hid hL
  have HLL := hid hll
  have HP := hid hp
  clear hL hll hp
  go_wp2_with fail
  change Code.wp _ _ _ _ ((w.alloc (.cells (s.cellsF false) 29)).alloc (.cells (d.cellsF false) 29))
  obtain ⟨W, hW, f0, f1, fb, fs⟩ := two_blocks w (.cells (s.cellsF false) 29) (.cells (d.cellsF false) 29)
  rw [← hW]
  clear hW
  have f0 : W.drew.heap[w.heap.size]? = some (.cells (s.cellsF false) 29) := f0
  have f1 : W.drew.heap[w.heap.size + 1]? = some (.cells (d.cellsF false) 29) := f1
  have fb : Below w.heap.size w W.drew := fb.drew
  have fs : W.drew.heap.size = w.heap.size + 2 := fs
  go_region_held3 (fun _ => True) (trivial)
    (first
      | (refine step_append_u8 (.tmp 41) (.tmp 43) (w.heap.size + 2) [] (s.bytes.take 4) (s.bytes.take 4) rfl rfl rfl rfl rfl (OB.nil _ _) (RB.inBlock f0 rfl (by decide : 4 ≤ 16) (by omega) (Adr.byte4F s false)) (by show 0 + 4 ≤ _; omega) (Nat.le_of_eq fs.symm) ?_; intro A1 c1 W2 ho1 hb1 _ _; have fb2 := fb.trans (hb1.mono (by omega)); have fs2 : w.heap.size + 2 ≤ W2.heap.size := Nat.le_trans (Nat.le_of_eq fs.symm) hb1.size; have g1 := (hb1.block (w.heap.size + 1) (by omega)).trans f1)
      | (refine step_append_u8 (.tmp 44) (.tmp 46) (w.heap.size + 2) (s.bytes.take 4) (d.bytes.take 4) L HL.out rfl rfl rfl rfl ho1 (RB.inBlock g1 rfl (by decide : 4 ≤ 16) (by omega) (Adr.byte4F d false)) (by show 4 + 4 ≤ _; omega) fs2 ?_; intro A2 c2 W3 ho2 hb2 _ _; have fb3 := fb2.trans (hb2.mono (by omega)); have fs3 : w.heap.size + 2 ≤ W3.heap.size := Nat.le_trans fs2 hb2.size)
      | fail)
  go_wp2_with (at_builtin; refine append_u8 (.tmp 48) (.tmp 55) (w.heap.size + 2) L [0, p, UInt8.ofNat (size / 256), UInt8.ofNat size] (pseudoS s d p size) (by rw [HL.out.symm, HP.out]) rfl rfl rfl rfl (ho2.alloc _) (RB.new W3 _ _ _ _ 4 rfl rfl (by omega) rfl) (by rw [HLL.out]; simp) (by simp; omega) ?_; intro A4 c4 W4 ho4 hb4 _ _)
  go_ret
  exact ⟨A4, c4, rfl, ho4.lower (by omega), fb3.trans ((below_alloc (Below.refl _ _) _ fb3.size).trans (hb4.mono (by omega)))⟩

theorem rpseudo_any (s d : Adr) (p : UInt8) (size : Nat) (w : World) (hs : size ≤ 4294967295) :
    Calls Try.prog 43 #[.agg s.cells, .agg d.cells, .int .u8 (p.toNat : Int), .int .i64 (size : Int)] w fun e w' => ∃ A c, e = .returned (.slice A (pseudoS s d p size).length c) ∧ OB w' w.heap.size (.slice A (pseudoS s d p size).length c) (pseudoS s d p size) ∧ Below w.heap.size w w' := by
  cases h1 : s.six <;> cases h2 : d.six
  · exact rpseudo_ff s d p size w hs h1 h2
  · exact rpseudo_ft s d p size w hs h1 h2
  · exact rpseudo_tf s d p size w hs h1 h2
  · exact rpseudo_tt s d p size w hs h1 h2
end Go.Proofs.Ytlgkgdgmhcckfaa
