/- Walks: a buffer's ok, Next, Len, Window. -/
import Derived.Test.YtblkfpipmdfmkaaRbP
import Derived.Test.YtblkfpipmdfmkaaSackAd
namespace Go.Proofs.Ytblkfpipmdfmkaa
set_option linter.unusedVariables false
set_option linter.unusedSimpArgs false
open Go.RowKit

def bufCells (m : BufP) (g d : Nat) : Array Value := #[.pointer (some ⟨g, 0, none⟩), .slice (some ⟨d, 0, none⟩) m.R m.R, .int .i64 (m.beg : Int), .int .i64 (m.n : Int), .int .u32 (m.last : Int), .bool m.kept]
/-- A buffer in memory: its struct in block gb, its board in g, its bytes in d. -/
structure BufW (w : World) (gb g d : Nat) (m : BufP) : Prop where
  blk : w.heap[gb]? = some (.cells (bufCells m g d) 50 (0, 0))
  brd : Brd w g m.f m.rs
  dat : w.heap[d]? = some (.cells (by8 m.xs).toArray 5 (0, 0))
  bg : gb ≠ g
  bd : gb ≠ d
  gd : g ≠ d
theorem BufW.cells {w : World} {gb g d : Nat} {m : BufP} (h : BufW w gb g d m) :
    w.cell? ⟨gb, 0, none⟩ = some (.pointer (some ⟨g, 0, none⟩)) ∧ w.cell? ⟨gb, 1, none⟩ = some (.slice (some ⟨d, 0, none⟩) m.R m.R) ∧ w.cell? ⟨gb, 2, none⟩ = some (.int .i64 (m.beg : Int)) ∧ w.cell? ⟨gb, 3, none⟩ = some (.int .i64 (m.n : Int)) ∧ w.cell? ⟨gb, 4, none⟩ = some (.int .u32 (m.last : Int)) ∧ w.cell? ⟨gb, 5, none⟩ = some (.bool m.kept) := by
  refine ⟨cellRow h.blk 0, cellRow h.blk 1, cellRow h.blk 2, cellRow h.blk 3, cellRow h.blk 4, cellRow h.blk 5⟩
theorem BufW.below {w w' : World} {gb g d : Nat} {m : BufP} (h : BufW w gb g d m) (hb : Below w.heap.size w w') : BufW w' gb g d m :=
  ⟨(hb.block _ (Array.getElem?_eq_some_iff.1 h.blk).1).trans h.blk, h.brd.below hb, (hb.block _ (Array.getElem?_eq_some_iff.1 h.dat).1).trans h.dat, h.bg, h.bd, h.gd⟩
theorem bufok_any (gb g d : Nat) (m : BufP) (w : World) (h : BufW w gb g d m) : Calls Try.prog 27 #[.pointer (some ⟨gb, 0, none⟩)] w fun e w' => e = .returned (.bool true) ∧ w = w' := by
  obtain ⟨c0, _⟩ := h.cells
  clear h
  go_enter Try.func27, Try.ntmps27
  go_wp2_with fail
  go_ret
  exact ⟨rfl, rfl⟩
theorem bufnext_any (gb g d : Nat) (m : BufP) (w : World) (h : BufW w gb g d m) : Calls Try.prog 13 #[.pointer (some ⟨gb, 0, none⟩)] w fun e w' => e = .returned (.int .u32 (m.f : Int)) ∧ w = w' := by
  have HO := hid (bufok_any gb g d m w h)
  have HF := hid (first_any g m.f m.rs w h.brd)
  obtain ⟨c0, _⟩ := h.cells
  clear h
  go_enter Try.func13, Try.ntmps13
  go_wp2_with fail
  (with_reducible refine Calls.mono HO.out ?_)
  rintro e w' ⟨rfl, rfl⟩
  go_wp2_with fail
  (with_reducible refine Calls.mono HF.out ?_)
  rintro e w' ⟨rfl, rfl⟩
  go_wp2_with fail
  go_ret
  exact ⟨rfl, rfl⟩
theorem buflen_any (gb g d : Nat) (m : BufP) (w : World) (h : BufW w gb g d m) : Calls Try.prog 14 #[.pointer (some ⟨gb, 0, none⟩)] w fun e w' => e = .returned (.int .i64 (m.n : Int)) ∧ w = w' := by
  have HO := hid (bufok_any gb g d m w h)
  obtain ⟨_, _, _, c3, _⟩ := h.cells
  clear h
  go_enter Try.func14, Try.ntmps14
  go_wp2_with fail
  (with_reducible refine Calls.mono HO.out ?_)
  rintro e w' ⟨rfl, rfl⟩
  go_wp2_with fail
  go_ret
  exact ⟨rfl, rfl⟩
theorem bufwin_any (gb g d : Nat) (m : BufP) (w : World) (h : BufW w gb g d m) (hk : BOk m) : Calls Try.prog 18 #[.pointer (some ⟨gb, 0, none⟩)] w fun e w' => e = .returned (.int .i64 ((m.R - m.n : Nat) : Int)) ∧ ∃ k, w' = w.drewN k := by
  have HO := hid (bufok_any gb g d m w h)
  obtain ⟨_, c1, _, c3, _⟩ := h.cells
  have hn := hk.n
  have hr := hk.r2
  have hw : IntKind.i64.wrap ((m.R : Int) - (m.n : Int)) = ((m.R - m.n : Nat) : Int) := by rw [IntKind.wrap_i64]; omega
  clear h hk
  go_enter Try.func18, Try.ntmps18
  go_wp2_with fail
  (with_reducible refine Calls.mono HO.out ?_)
  rintro e w' ⟨rfl, rfl⟩
  go_wp2_with fail
  go_quiet (fail)
  go_wp2_with fail
  go_ret
  exact ⟨rfl, _, rfl⟩
theorem diff_any (a b : Nat) (ha : a < 4294967296) (hb : b < 4294967296) (w : World) : Calls Try.prog 42 #[.int .u32 (a : Int), .int .u32 (b : Int)] w fun e w' => e = .returned (.int .i32 (diffB a b)) ∧ w = w' := by
  obtain ⟨x, hx⟩ : ∃ x, aheadS a b = x := ⟨_, rfl⟩
  have hxl : x < 4294967296 := by rw [← hx]; exact Nat.mod_lt _ (by decide)
  have h1 : ((b : Int) - (a : Int)) % 4294967296 = (x : Int) := by rw [← hx]; unfold aheadS; omega
  have h2 : IntKind.u32.wrap ((b : Int) - (a : Int)) = (x : Int) := by rw [IntKind.wrap_u32]; exact h1
  have hd : diffB a b = if x < 2147483648 then (x : Int) else (x : Int) - 4294967296 := by unfold diffB; rw [hx]
  obtain ⟨y, hy⟩ : ∃ y, diffB a b = y := ⟨_, rfl⟩
  rw [hy] at hd ⊢
  have h3 : IntKind.i32.wrap (x : Int) = y := by rw [IntKind.wrap_i32, hd]; split <;> omega
  have h4 : ((x : Int) + 2147483648) % 4294967296 - 2147483648 = y := by rw [hd]; split <;> omega
  clear hd hx hy
  go_enter Try.func42, Try.ntmps42
  go_wp2_with fail
  go_ret
  exact ⟨rfl, rfl⟩
end Go.Proofs.Ytblkfpipmdfmkaa
