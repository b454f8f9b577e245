/- Walks: addr.Of. -/
import Derived.Test.YtpcfgihomplehaaAdrB
import Derived.Test.YtpcfgihomplehaaPk4P
import Derived.Test.YtpcfgihomplehaaBlk
import Derived.Laws.CopyOwn
namespace Go.Proofs.Ytpcfgihomplehaa
set_option linter.unusedVariables false
set_option linter.unusedSimpArgs false
open Go.RowKit

def noAdr (s : Bool) : Adr := ⟨s, 0, 0, 0, 0, 0, 0, 0, 0, 0, 0, 0, 0, 0, 0, 0, 0⟩
theorem of16_cells (b : List UInt8) (hl : b.length = 16) : splice (noAdr true).cells.toList 1 (by8 b) = (adr6 b).cells.toList := by
  obtain ⟨x0, x1, x2, x3, x4, x5, x6, x7, x8, x9, x10, x11, x12, x13, x14, x15, rfl⟩ : ∃ x0 x1 x2 x3 x4 x5 x6 x7 x8 x9 x10 x11 x12 x13 x14 x15, b = [x0, x1, x2, x3, x4, x5, x6, x7, x8, x9, x10, x11, x12, x13, x14, x15] := by
    match b, hl with
    | [x0, x1, x2, x3, x4, x5, x6, x7, x8, x9, x10, x11, x12, x13, x14, x15], _ => exact ⟨_, _, _, _, _, _, _, _, _, _, _, _, _, _, _, _, rfl⟩
  rfl
theorem of4_cells (b : List UInt8) (hl : b.length = 4) : splice (noAdr false).cells.toList 1 (by8 b) = (adr4 b).cells.toList := by
  obtain ⟨x0, x1, x2, x3, rfl⟩ : ∃ x0 x1 x2 x3, b = [x0, x1, x2, x3] := by
    match b, hl with
    | [x0, x1, x2, x3], _ => exact ⟨_, _, _, _, rfl⟩
  rfl
theorem infoA (a : Adr) : (Try.prog.info? 24).map (·.size) = some a.cells.size := info_addr a
theorem Adr.one (a : Adr) : a.cells.all (·.oneCell') = true := by simp [Adr.cells, Value.oneCell']
theorem adr_ret2 {fn : Func} {R : Ending → World → Prop} {tmps : Array Value} {w : World} {p q : Tmp} {b : Nat} {a : Adr} {v : Value} (hf : fn.results = #[.cell p 24, .tmp q]) (hp : tmps.getD p undef = .pointer (some ⟨b, 0, none⟩)) (hq : tmps.getD q undef = v)
    (hb : w.heap[b]? = some (.cells a.cells 24 (0, 0))) (hR : R (.returned (.tuple #[.agg a.cells, v])) w) : bodyPost Try.prog fn R .ret ⟨tmps, []⟩ w := by
  have hp' : tmps[p]?.getD undef = .pointer (some ⟨b, 0, none⟩) := by simpa using hp
  have hq' : tmps[q]?.getD undef = v := by simpa using hq
  refine bodyPost_ret (v := .tuple #[.agg a.cells, v]) ?_ rfl hR
  simp [results, hf, hp', hq', asAddr, run_loadVar_row w b 24 24 a.cells (0, 0) _ hb Try.underlying24 rfl (infoA a)]
set_option maxHeartbeats 400000 in
theorem adrOf16 (v : Value) (b : List UInt8) (w : World) (hx : RB w v b) (hl : b.length = 16) : Calls Try.prog 32 #[v] w fun e w' =>
    e = .returned (.tuple #[.agg (adr6 b).cells, .int .i64 0]) ∧ Below w.heap.size w w' := by
  have hx0 := hid hx
  obtain ⟨A, c, rfl, hrow⟩ := hx
  have hcap := hrow.cap
  have htop := hrow.top
  obtain ⟨ad, rfl, _⟩ := hrow.at_ 0 _ (by8_get b 0 (by omega))
  have HR := hid hrow
  have HS := hid (of16_cells b hl)
  have HL := hid hl
  clear hrow
  rw [hl] at hcap hx0 HR ⊢
  clear hl
  go_enter Try.func32, Try.ntmps32
  go_wp2_with (refine wpList_copy_splice rfl (.tmp 19) (.tmp 20) 26 26 rfl 5 Try.underlying26 (by kernel_rfl) _ _ 16 16 16 c rfl rfl (w.heap.size + 1) 1 (noAdr true).cells.toList 24 (nw2 w _ _) (by8 b) (by rw [by8_length, HL.out]; rfl) (fun _ => ⟨rfl, ad, rfl, fun j u hj => ?c1⟩) (by rw [by8_length, HL.out]; decide) (by8_one b) (w.heap.size + 1) (w.alloc (.cells (noAdr false).cells 24)) ?c2 (by omega) ?_)
  case c1 => exact ((HR.out.alloc _).alloc _).get j u hj
  case c2 => exact below_alloc (Below.refl _ _) _ (by simp)
  intro w1 h1 h2
  have h0 : w1.heap[w.heap.size]? = some (.cells (noAdr false).cells 24 (0, 0)) := (h2.block _ (by omega)).trans (nw1 w _)
  have h1' : w1.heap[w.heap.size + 1]? = some (.cells (adr6 b).cells 24 (0, 0)) := by have := h1.out; rw [HS.out] at this; exact this
  have hb1 : Below w.heap.size w w1 := (bl1 w _).trans (h2.mono (by omega))
  clear h1 h2
  go_wp2_with (first
    | refine wpList_load_row rfl 24 (.tmp 4) rfl (w.heap.size + 1) rfl _ _ _ _ h1' Try.underlying24 rfl (infoA _) ?_
    | refine wpList_store_row rfl 24 (.tmp 2) (.tmp 22) rfl w.heap.size _ rfl rfl _ _ h0 (infoA _) rfl (Adr.one _) ?_)
  exact adr_ret2 (a := adr6 b) rfl rfl rfl (rowSetRow h0 _) ⟨rfl, belowSetRow hb1 (Nat.le_refl _) _⟩
set_option maxHeartbeats 400000 in
theorem adrOf4 (v : Value) (b : List UInt8) (w : World) (hx : RB w v b) (hl : b.length = 4) : Calls Try.prog 32 #[v] w fun e w' =>
    e = .returned (.tuple #[.agg (adr4 b).cells, .int .i64 0]) ∧ Below w.heap.size w w' := by
  have hx0 := hid hx
  obtain ⟨A, c, rfl, hrow⟩ := hx
  have hcap := hrow.cap
  have htop := hrow.top
  obtain ⟨ad, rfl, _⟩ := hrow.at_ 0 _ (by8_get b 0 (by omega))
  have HR := hid hrow
  have HS := hid (of4_cells b hl)
  have HL := hid hl
  clear hrow
  rw [hl] at hcap hx0 HR ⊢
  clear hl
  go_enter Try.func32, Try.ntmps32
  go_wp2_with (refine wpList_copy_splice rfl (.tmp 19) (.tmp 20) 26 26 rfl 5 Try.underlying26 (by kernel_rfl) _ _ 16 16 4 c rfl rfl (w.heap.size + 1) 1 (noAdr false).cells.toList 24 (nw2 w _ _) (by8 b) (by rw [by8_length, HL.out]; rfl) (fun _ => ⟨rfl, ad, rfl, fun j u hj => ?c1⟩) (by rw [by8_length, HL.out]; decide) (by8_one b) (w.heap.size + 1) (w.alloc (.cells (noAdr false).cells 24)) ?c2 (by omega) ?_)
  case c1 => exact ((HR.out.alloc _).alloc _).get j u hj
  case c2 => exact below_alloc (Below.refl _ _) _ (by simp)
  intro w1 h1 h2
  have h0 : w1.heap[w.heap.size]? = some (.cells (noAdr false).cells 24 (0, 0)) := (h2.block _ (by omega)).trans (nw1 w _)
  have h1' : w1.heap[w.heap.size + 1]? = some (.cells (adr4 b).cells 24 (0, 0)) := by have := h1.out; rw [HS.out] at this; exact this
  have hb1 : Below w.heap.size w w1 := (bl1 w _).trans (h2.mono (by omega))
  clear h1 h2
  go_wp2_with (first
    | refine wpList_load_row rfl 24 (.tmp 4) rfl (w.heap.size + 1) rfl _ _ _ _ h1' Try.underlying24 rfl (infoA _) ?_
    | refine wpList_store_row rfl 24 (.tmp 2) (.tmp 22) rfl w.heap.size _ rfl rfl _ _ h0 (infoA _) rfl (Adr.one _) ?_)
  exact adr_ret2 (a := adr4 b) rfl rfl rfl (rowSetRow h0 _) ⟨rfl, belowSetRow hb1 (Nat.le_refl _) _⟩
end Go.Proofs.Ytpcfgihomplehaa
