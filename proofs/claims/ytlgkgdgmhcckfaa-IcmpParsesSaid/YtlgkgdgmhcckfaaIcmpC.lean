/- Walk: the reference's May. -/
import Derived.Test.YtlgkgdgmhcckfaaIcmpB
namespace Go.Proofs.Ytlgkgdgmhcckfaa
set_option linter.unusedVariables false
set_option linter.unusedSimpArgs false
open Go.RowKit

set_option maxHeartbeats 1000000 in
theorem rmay_any (m : Msg) (dv : Value) (six : Bool) (w : World) (hd0 : RB w dv m.data) :
    Calls Try.prog 14 #[m.v dv, .bool six] w fun e w' => e = .returned (.bool (mayS m six)) ∧ Below w.heap.size w w' := by
  have hs0 := fun W (h : RB W dv m.data) => rsame_any (keptS m) m dv dv W h h
  have hk := hid fun W (h : RB W dv m.data) => kept_any m dv W h
  have hq := sameS_kept m
  obtain ⟨sq, hsq⟩ : ∃ b, b = sameS (keptS m) m := ⟨_, rfl⟩
  rw [← hsq] at hq
  rw [← hsq] at hs0
  clear hsq
  have hs := hid hs0
  have hd := hid hd0
  obtain ⟨A, c, rfl, hrow⟩ := hd0
  have htop := hrow.top
  have hcap := hrow.cap
  clear hs0 hrow
  have hm : mayS m six = (decide (1 ≤ m.kind) && (decide (m.kind ≤ 5) && (sq && (decide ((m.data.length : Int) ≤ 1400) && (six || decide (m.mtu ≤ 65535)))))) := by
    by_cases h1 : 1 ≤ m.kind ∧ m.kind ≤ 5
    · rw [hq h1]
      unfold mayS
      rw [Bool.eq_iff_iff]
      cases six <;> simp [h1.1, h1.2] <;> omega
    · unfold mayS
      rw [Bool.eq_iff_iff]
      cases six <;> simp <;> omega
  have HM := hid hm
  clear hm hq
  generalize mayS m six = r at HM ⊢
  obtain ⟨k, co, i, s, t, d⟩ := m
  generalize keptS ⟨k, co, i, s, t, d⟩ = km at hk hs
  obtain ⟨k2, co2, i2, s2, t2, d2⟩ := km
  unfold Msg.v Msg.cells at hk hs
  simp only at hd hk hs HM htop hcap ⊢
  by_cases h1 : 1 ≤ k
  · skip
    by_cases h2 : k ≤ 5
    · skip
      cases sq
      case false =>
        go_enter Try.func14, Try.ntmps14
        unfold Msg.v Msg.cells
        go_wp2_with fail
        have hR := heap_alloc_new w (.cells #[.int .i64 k, .int .u8 co, .int .u16 i, .int .u16 s, .int .u32 t, .slice A d.length c] 26)
        have hB := below_alloc (Below.refl w.heap.size w) (.cells #[.int .i64 k, .int .u8 co, .int .u16 i, .int .u16 s, .int .u32 t, .slice A d.length c] 26) (Nat.le_refl _)
        have hz : (w.alloc (.cells #[.int .i64 k, .int .u8 co, .int .u16 i, .int .u16 s, .int .u32 t, .slice A d.length c] 26)).heap.size = w.heap.size + 1 := by simp
        have hd2 := hd.out.alloc (.cells #[.int .i64 k, .int .u8 co, .int .u16 i, .int .u16 s, .int .u32 t, .slice A d.length c] 26)
        generalize w.alloc _ = W at hR hB hz hd2 ⊢
        have g := fun x : Later W.heap.size W => msg_cells (m := ⟨k, co, i, s, t, d⟩) (x.blk hR (by omega))
        simp only [forall_and] at g
        obtain ⟨f0, f1, f2, f3, f4, f5⟩ := g
        refine wp_region_later W.heap.size (Nat.le_refl _) (by kernel_rfl) (by kernel_rfl) ?_
        clear hR hz
        repeat (go_big_quiet_step (first | (go_at_call 32; exact quiet_later _ (Nat.le_refl _) (hk.out _ (hd2.below (Later.ok _)))) | (go_at_call 16; exact quiet_later _ (Nat.le_refl _) (hs.out _ (hd2.below (Later.ok _))))))
        refine wpQuiet_nil ?_
        rintro _ ⟨x, rfl⟩
        go_wp2_with fail
        go_ret
        refine ⟨?_, below_after hB x.ok (Nat.le_refl _)⟩
        rw [HM.out]
        simp [*]
      case true =>
        by_cases hl : (d.length : Int) ≤ 1400
        · skip
          cases six
          case true =>
            go_enter Try.func14, Try.ntmps14
            unfold Msg.v Msg.cells
            go_wp2_with fail
            have hR := heap_alloc_new w (.cells #[.int .i64 k, .int .u8 co, .int .u16 i, .int .u16 s, .int .u32 t, .slice A d.length c] 26)
            have hB := below_alloc (Below.refl w.heap.size w) (.cells #[.int .i64 k, .int .u8 co, .int .u16 i, .int .u16 s, .int .u32 t, .slice A d.length c] 26) (Nat.le_refl _)
            have hz : (w.alloc (.cells #[.int .i64 k, .int .u8 co, .int .u16 i, .int .u16 s, .int .u32 t, .slice A d.length c] 26)).heap.size = w.heap.size + 1 := by simp
            have hd2 := hd.out.alloc (.cells #[.int .i64 k, .int .u8 co, .int .u16 i, .int .u16 s, .int .u32 t, .slice A d.length c] 26)
            generalize w.alloc _ = W at hR hB hz hd2 ⊢
            have g := fun x : Later W.heap.size W => msg_cells (m := ⟨k, co, i, s, t, d⟩) (x.blk hR (by omega))
            simp only [forall_and] at g
            obtain ⟨f0, f1, f2, f3, f4, f5⟩ := g
            refine wp_region_later W.heap.size (Nat.le_refl _) (by kernel_rfl) (by kernel_rfl) ?_
            clear hR hz
            repeat (go_big_quiet_step (first | (go_at_call 32; exact quiet_later _ (Nat.le_refl _) (hk.out _ (hd2.below (Later.ok _)))) | (go_at_call 16; exact quiet_later _ (Nat.le_refl _) (hs.out _ (hd2.below (Later.ok _))))))
            refine wpQuiet_nil ?_
            rintro _ ⟨x, rfl⟩
            go_wp2_with fail
            go_ret
            refine ⟨?_, below_after hB x.ok (Nat.le_refl _)⟩
            rw [HM.out]
            simp [*]
          case false =>
            by_cases hu : t ≤ 65535
            · skip
              go_enter Try.func14, Try.ntmps14
              unfold Msg.v Msg.cells
              go_wp2_with fail
              have hR := heap_alloc_new w (.cells #[.int .i64 k, .int .u8 co, .int .u16 i, .int .u16 s, .int .u32 t, .slice A d.length c] 26)
              have hB := below_alloc (Below.refl w.heap.size w) (.cells #[.int .i64 k, .int .u8 co, .int .u16 i, .int .u16 s, .int .u32 t, .slice A d.length c] 26) (Nat.le_refl _)
              have hz : (w.alloc (.cells #[.int .i64 k, .int .u8 co, .int .u16 i, .int .u16 s, .int .u32 t, .slice A d.length c] 26)).heap.size = w.heap.size + 1 := by simp
              have hd2 := hd.out.alloc (.cells #[.int .i64 k, .int .u8 co, .int .u16 i, .int .u16 s, .int .u32 t, .slice A d.length c] 26)
              generalize w.alloc _ = W at hR hB hz hd2 ⊢
              have g := fun x : Later W.heap.size W => msg_cells (m := ⟨k, co, i, s, t, d⟩) (x.blk hR (by omega))
              simp only [forall_and] at g
              obtain ⟨f0, f1, f2, f3, f4, f5⟩ := g
              refine wp_region_later W.heap.size (Nat.le_refl _) (by kernel_rfl) (by kernel_rfl) ?_
              clear hR hz
              repeat (go_big_quiet_step (first | (go_at_call 32; exact quiet_later _ (Nat.le_refl _) (hk.out _ (hd2.below (Later.ok _)))) | (go_at_call 16; exact quiet_later _ (Nat.le_refl _) (hs.out _ (hd2.below (Later.ok _))))))
              refine wpQuiet_nil ?_
              rintro _ ⟨x, rfl⟩
              go_wp2_with fail
              go_ret
              refine ⟨?_, below_after hB x.ok (Nat.le_refl _)⟩
              rw [HM.out]
              simp [*]
            · skip
              have hdd : decide (t ≤ 65535) = false := decide_eq_false hu
              go_enter Try.func14, Try.ntmps14
              unfold Msg.v Msg.cells
              go_wp2_with fail
              have hR := heap_alloc_new w (.cells #[.int .i64 k, .int .u8 co, .int .u16 i, .int .u16 s, .int .u32 t, .slice A d.length c] 26)
              have hB := below_alloc (Below.refl w.heap.size w) (.cells #[.int .i64 k, .int .u8 co, .int .u16 i, .int .u16 s, .int .u32 t, .slice A d.length c] 26) (Nat.le_refl _)
              have hz : (w.alloc (.cells #[.int .i64 k, .int .u8 co, .int .u16 i, .int .u16 s, .int .u32 t, .slice A d.length c] 26)).heap.size = w.heap.size + 1 := by simp
              have hd2 := hd.out.alloc (.cells #[.int .i64 k, .int .u8 co, .int .u16 i, .int .u16 s, .int .u32 t, .slice A d.length c] 26)
              generalize w.alloc _ = W at hR hB hz hd2 ⊢
              have g := fun x : Later W.heap.size W => msg_cells (m := ⟨k, co, i, s, t, d⟩) (x.blk hR (by omega))
              simp only [forall_and] at g
              obtain ⟨f0, f1, f2, f3, f4, f5⟩ := g
              refine wp_region_later W.heap.size (Nat.le_refl _) (by kernel_rfl) (by kernel_rfl) ?_
              clear hR hz
              repeat (go_big_quiet_step (first | (go_at_call 32; exact quiet_later _ (Nat.le_refl _) (hk.out _ (hd2.below (Later.ok _)))) | (go_at_call 16; exact quiet_later _ (Nat.le_refl _) (hs.out _ (hd2.below (Later.ok _))))))
              refine wpQuiet_nil ?_
              rintro _ ⟨x, rfl⟩
              go_wp2_with fail
              go_ret
              refine ⟨?_, below_after hB x.ok (Nat.le_refl _)⟩
              rw [HM.out]
              simp [*]
        · skip
          have hdd : decide ((d.length : Int) ≤ 1400) = false := decide_eq_false hl
          go_enter Try.func14, Try.ntmps14
          unfold Msg.v Msg.cells
          go_wp2_with fail
          have hR := heap_alloc_new w (.cells #[.int .i64 k, .int .u8 co, .int .u16 i, .int .u16 s, .int .u32 t, .slice A d.length c] 26)
          have hB := below_alloc (Below.refl w.heap.size w) (.cells #[.int .i64 k, .int .u8 co, .int .u16 i, .int .u16 s, .int .u32 t, .slice A d.length c] 26) (Nat.le_refl _)
          have hz : (w.alloc (.cells #[.int .i64 k, .int .u8 co, .int .u16 i, .int .u16 s, .int .u32 t, .slice A d.length c] 26)).heap.size = w.heap.size + 1 := by simp
          have hd2 := hd.out.alloc (.cells #[.int .i64 k, .int .u8 co, .int .u16 i, .int .u16 s, .int .u32 t, .slice A d.length c] 26)
          generalize w.alloc _ = W at hR hB hz hd2 ⊢
          have g := fun x : Later W.heap.size W => msg_cells (m := ⟨k, co, i, s, t, d⟩) (x.blk hR (by omega))
          simp only [forall_and] at g
          obtain ⟨f0, f1, f2, f3, f4, f5⟩ := g
          refine wp_region_later W.heap.size (Nat.le_refl _) (by kernel_rfl) (by kernel_rfl) ?_
          clear hR hz
          repeat (go_big_quiet_step (first | (go_at_call 32; exact quiet_later _ (Nat.le_refl _) (hk.out _ (hd2.below (Later.ok _)))) | (go_at_call 16; exact quiet_later _ (Nat.le_refl _) (hs.out _ (hd2.below (Later.ok _))))))
          refine wpQuiet_nil ?_
          rintro _ ⟨x, rfl⟩
          go_wp2_with fail
          go_ret
          refine ⟨?_, below_after hB x.ok (Nat.le_refl _)⟩
          rw [HM.out]
          simp [*]
    · skip
      have hdd : decide (k ≤ 5) = false := decide_eq_false h2
      go_enter Try.func14, Try.ntmps14
      unfold Msg.v Msg.cells
      go_wp2_with fail
      have hR := heap_alloc_new w (.cells #[.int .i64 k, .int .u8 co, .int .u16 i, .int .u16 s, .int .u32 t, .slice A d.length c] 26)
      have hB := below_alloc (Below.refl w.heap.size w) (.cells #[.int .i64 k, .int .u8 co, .int .u16 i, .int .u16 s, .int .u32 t, .slice A d.length c] 26) (Nat.le_refl _)
      have hz : (w.alloc (.cells #[.int .i64 k, .int .u8 co, .int .u16 i, .int .u16 s, .int .u32 t, .slice A d.length c] 26)).heap.size = w.heap.size + 1 := by simp
      have hd2 := hd.out.alloc (.cells #[.int .i64 k, .int .u8 co, .int .u16 i, .int .u16 s, .int .u32 t, .slice A d.length c] 26)
      generalize w.alloc _ = W at hR hB hz hd2 ⊢
      have g := fun x : Later W.heap.size W => msg_cells (m := ⟨k, co, i, s, t, d⟩) (x.blk hR (by omega))
      simp only [forall_and] at g
      obtain ⟨f0, f1, f2, f3, f4, f5⟩ := g
      refine wp_region_later W.heap.size (Nat.le_refl _) (by kernel_rfl) (by kernel_rfl) ?_
      clear hR hz
      repeat (go_big_quiet_step (first | (go_at_call 32; exact quiet_later _ (Nat.le_refl _) (hk.out _ (hd2.below (Later.ok _)))) | (go_at_call 16; exact quiet_later _ (Nat.le_refl _) (hs.out _ (hd2.below (Later.ok _))))))
      refine wpQuiet_nil ?_
      rintro _ ⟨x, rfl⟩
      go_wp2_with fail
      go_ret
      refine ⟨?_, below_after hB x.ok (Nat.le_refl _)⟩
      rw [HM.out]
      simp [*]
  · skip
    have hdd : decide (1 ≤ k) = false := decide_eq_false h1
    go_enter Try.func14, Try.ntmps14
    unfold Msg.v Msg.cells
    go_wp2_with fail
    have hR := heap_alloc_new w (.cells #[.int .i64 k, .int .u8 co, .int .u16 i, .int .u16 s, .int .u32 t, .slice A d.length c] 26)
    have hB := below_alloc (Below.refl w.heap.size w) (.cells #[.int .i64 k, .int .u8 co, .int .u16 i, .int .u16 s, .int .u32 t, .slice A d.length c] 26) (Nat.le_refl _)
    have hz : (w.alloc (.cells #[.int .i64 k, .int .u8 co, .int .u16 i, .int .u16 s, .int .u32 t, .slice A d.length c] 26)).heap.size = w.heap.size + 1 := by simp
    have hd2 := hd.out.alloc (.cells #[.int .i64 k, .int .u8 co, .int .u16 i, .int .u16 s, .int .u32 t, .slice A d.length c] 26)
    generalize w.alloc _ = W at hR hB hz hd2 ⊢
    have g := fun x : Later W.heap.size W => msg_cells (m := ⟨k, co, i, s, t, d⟩) (x.blk hR (by omega))
    simp only [forall_and] at g
    obtain ⟨f0, f1, f2, f3, f4, f5⟩ := g
    refine wp_region_later W.heap.size (Nat.le_refl _) (by kernel_rfl) (by kernel_rfl) ?_
    clear hR hz
    repeat (go_big_quiet_step (first | (go_at_call 32; exact quiet_later _ (Nat.le_refl _) (hk.out _ (hd2.below (Later.ok _)))) | (go_at_call 16; exact quiet_later _ (Nat.le_refl _) (hs.out _ (hd2.below (Later.ok _))))))
    refine wpQuiet_nil ?_
    rintro _ ⟨x, rfl⟩
    go_wp2_with fail
    go_ret
    refine ⟨?_, below_after hB x.ok (Nat.le_refl _)⟩
    rw [HM.out]
    simp [*]
end Go.Proofs.Ytlgkgdgmhcckfaa
