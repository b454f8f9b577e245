/- Walk: the laws' alive. -/
import Derived.Test.YtlgkgdgmhcckfaaIcmpJ
import Derived.Deep.Cut
namespace Go.Proofs.Ytlgkgdgmhcckfaa
set_option linter.unusedVariables false
set_option linter.unusedSimpArgs false
open Go.RowKit

theorem adr0_cells : adr0.cells = #[.bool false, .int .u8 0, .int .u8 0, .int .u8 0, .int .u8 0, .int .u8 0, .int .u8 0, .int .u8 0, .int .u8 0, .int .u8 0, .int .u8 0, .int .u8 0, .int .u8 0, .int .u8 0, .int .u8 0, .int .u8 0, .int .u8 0] := rfl
set_option maxHeartbeats 2000000 in
theorem alive_any (w : World) : Calls Try.prog 9 #[] w fun e w' => e = .returned (.bool true) ∧ Below w.heap.size w w' := by
  have hL := fun W => lay_any ask0 ask0_ok (.slice none 0 0) adr0 adr0 W (RB.nil W) (by decide)
  rw [lay0.1, lay0.2, adr0_cells] at hL
  have HL := hid hL
  have hP := fun v W (h : RB W v [8, 0, 0xf7, 0xfc, 0, 1, 0, 2]) => parse_any v _ adr0 adr0 W h (by decide)
  rw [parse0, parse1, adr0_cells] at hP
  have HP := hid hP
  have hA : ask0 = ⟨1, 0, 1, 2, 0, []⟩ := rfl
  clear hL hP
  go_enter Try.func9, Try.ntmps9
  go_wp2_with fail
  generalize hW : w.alloc _ = W
  obtain ⟨f0, fb, fs⟩ := one_facts hW
  clear hW
  refine Calls.mono (HL.out W) ?_
  rintro e w1 ⟨A1, n1, rfl, ho1, hb1⟩
  have hr1 := ho1.rb
  replace f0 := (hb1.block _ (by omega)).trans f0
  replace fb := below_after fb hb1 (Nat.le_refl _)
  have fs1 : w.heap.size + 1 ≤ w1.heap.size := Nat.le_trans (Nat.le_of_eq fs.symm) hb1.size
  clear hb1 ho1 fs
  go_wp2_with fail
  refine Calls.mono (HP.out _ w1 hr1) ?_
  rintro e w2 ⟨dv, rfl, hrd, hb2⟩
  obtain ⟨A2, n2, rfl, hrow2⟩ := hrd
  have hrd : RB w2 (.slice A2 0 n2) [] := ⟨A2, n2, rfl, hrow2⟩
  rw [show ask0.v (Value.slice A2 ask0.data.length n2) = .agg #[.int .i64 1, .int .u8 0, .int .u16 1, .int .u16 2, .int .u32 0, .slice A2 0 n2] from rfl]
  replace f0 := (hb2.block _ (by omega)).trans f0
  replace fb := below_after fb hb2 (Nat.le_refl _)
  have hr2 := hr1.below hb2
  have fs2 := Nat.le_trans fs1 hb2.size
  clear hr1 hrow2 hb2 fs1
  go_wp2_with fail
  generalize hW : w2.alloc _ = W2
  obtain ⟨g0, hb3, fs3⟩ := one_facts hW
  clear hW
  have x0 := g0
  replace f0 := (hb3.block _ (by omega)).trans f0
  replace fb := below_after fb hb3 (Nat.le_refl _)
  have hr3 := hr2.below hb3
  have hrd3 := hrd.below hb3
  generalize w2.heap.size = X at *
  clear hr2 hrd hb3
  refine Calls.mono (reply_any ⟨1, 0, 1, 2, 0, []⟩ (.slice A2 0 n2) W2 hrd3 (by decide)) ?_
  rintro e w4 ⟨dv, rfl, hrp, hb4⟩
  obtain ⟨A4, n4, rfl, hrow4⟩ := hrp
  rw [show (replyS ⟨1, 0, 1, 2, 0, []⟩).v (Value.slice A4 (replyS ⟨1, 0, 1, 2, 0, []⟩).data.length n4) = .agg #[.int .i64 2, .int .u8 0, .int .u16 1, .int .u16 2, .int .u32 0, .slice A4 0 n4] from rfl, show decide ((1 : Int) = 1) = true from rfl]
  have hz4 := hb4.size
  replace f0 := (hb4.block _ (by omega)).trans f0
  replace x0 := (hb4.block _ (by omega)).trans x0
  replace fb := below_after fb hb4 (Nat.le_refl _)
  have hr4 := hr3.below hb4
  have hrd4 := hrd3.below hb4
  clear hr3 hrd3 hb4 g0 hrow4
  have l0 : w.heap.size < w4.heap.size := by omega
  have lX : X < w4.heap.size := by omega
  obtain ⟨c0, c1, c2, c3, c4, c5⟩ := msg_cells (m := ⟨1, 0, 1, 2, 0, []⟩) f0
  obtain ⟨d0, d1, d2, d3, d4, d5⟩ := msg_cells (m := ⟨1, 0, 1, 2, 0, []⟩) x0
  simp only at c0 c1 c2 c3 c4 c5 d0 d1 d2 d3 d4 d5
  have qs : ∀ o : Obj, (convert 24 9 (.slice A1 8 n1)).run Try.prog (w4.alloc o) = .ok (.string ⟨#[8, 0, 247, 252, 0, 1, 0, 2]⟩) (w4.alloc o) := fun o => conv_str (hr4.alloc o)
  go_wp2_with fail
  generalize hW : w4.alloc _ = W5
  obtain ⟨y0, hb5, fs5⟩ := one_facts hW
  clear hW
  refine Calls.mono (same_any ⟨1, 0, 1, 2, 0, []⟩ ⟨1, 0, 1, 2, 0, []⟩ (.slice none 0 0) (.slice A2 0 n2) W5 (RB.nil _) (hrd4.below hb5)) ?_
  rw [show sameS ⟨1, 0, 1, 2, 0, []⟩ ⟨1, 0, 1, 2, 0, []⟩ = true from rfl]
  rintro e w6 ⟨rfl, hb6⟩
  have y6 := (hb6.block _ (by omega)).trans y0
  obtain ⟨e0, e1, e2, e3, e4, e5⟩ := msg_cells (m := ⟨2, 0, 1, 2, 0, []⟩) y6
  simp only at e0 e1 e2 e3 e4 e5
  go_wp2_with fail
  go_ret
  exact ⟨rfl, below_after (below_after fb hb5 (Nat.le_refl _)) hb6 (Nat.le_refl _)⟩
end Go.Proofs.Ytlgkgdgmhcckfaa
