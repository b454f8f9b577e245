/- Walks: addr.Bytes. -/
import Derived.Test.YtpcfgihomplehaaAdrA
import Derived.Test.YtpcfgihomplehaaOctA
namespace Go.Proofs.Ytpcfgihomplehaa
set_option linter.unusedVariables false
set_option linter.unusedSimpArgs false
open Go.RowKit

def Adr.cut (a : Adr) : List UInt8 := if a.six then a.bytes else a.bytes.take 4
theorem Adr.cut_len (a : Adr) : a.cut.length = a.sizeS := by unfold Adr.cut Adr.sizeS; split <;> rfl
theorem adrBytes_any (a : Adr) (w : World) : Calls Try.prog 19 #[.agg a.cells] w fun e w' =>
    ∃ A c, e = .returned (.slice A a.cut.length c) ∧ OB w' w.heap.size (.slice A a.cut.length c) a.cut ∧ Below w.heap.size w w' := by
  have hsz := hid fun W => adrSize_any a W
  unfold Adr.val at hsz
  go_enter Try.func19, Try.ntmps19
  go_wp2_with (first
      | refine wpList_load_row rfl 24 (.tmp 4) rfl w.heap.size rfl 24 a.cells (0, 0) _ (heap_alloc_new w _) Try.underlying24 rfl (info_addr a) ?_
      | refine wpList_load_row rfl 24 (.tmp 1) rfl w.heap.size rfl 24 a.cells (0, 0) _ (heap_alloc_new w _) Try.underlying24 rfl (info_addr a) ?_)
  refine (hsz.out _).mono ?_
  rintro e w1 ⟨rfl, hb1⟩
  have f0 : w1.heap[w.heap.size]? = some (.cells a.cells 24 (0, 0)) := (hb1.block _ (by simp)).trans (heap_alloc_new w _)
  have hb : Below w.heap.size w w1 := below_after (below_alloc (Below.refl _ _) _ (Nat.le_refl _)) hb1 (Nat.le_refl _)
  cases h6 : a.six
  · have e : a.cut = a.bytes.take 4 := by unfold Adr.cut; rw [h6]; rfl
    rw [show a.sizeS = 4 by unfold Adr.sizeS; rw [h6]; rfl]
    go_wp2_with fail
    refine (clone_any _ (a.bytes.take 4) _ (RB.inBlock f0 rfl (by rw [Adr.bytes4_length]; decide) (by decide) (Adr.cells_byte4 a)) (by rw [Adr.bytes4_length]; decide)).mono ?_
    rintro e w2 ⟨A, c, rfl, ho, hb2⟩
    go_wp2_with fail
    go_ret
    rw [e]
    exact ⟨A, c, rfl, ho.lower hb.size, below_after hb hb2 (Nat.le_refl _)⟩
  · have e : a.cut = a.bytes := by unfold Adr.cut; rw [h6]; rfl
    rw [show a.sizeS = 16 by unfold Adr.sizeS; rw [h6]; rfl]
    go_wp2_with fail
    refine (clone_any _ a.bytes _ (RB.inBlock f0 rfl (by rw [Adr.bytes_length]; decide) (by decide) (Adr.cells_byte a)) (by rw [Adr.bytes_length]; decide)).mono ?_
    rintro e w2 ⟨A, c, rfl, ho, hb2⟩
    go_wp2_with fail
    go_ret
    rw [e]
    exact ⟨A, c, rfl, ho.lower hb.size, below_after hb hb2 (Nat.le_refl _)⟩
end Go.Proofs.Ytpcfgihomplehaa
