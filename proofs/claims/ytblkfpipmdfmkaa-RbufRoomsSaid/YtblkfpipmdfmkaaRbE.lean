/- Walk: New of a buffer. -/
import Derived.Test.YtblkfpipmdfmkaaRbD
namespace Go.Proofs.Ytblkfpipmdfmkaa
set_option linter.unusedVariables false
set_option linter.unusedSimpArgs false
open Go.RowKit

set_option maxRecDepth 20000 in
set_option maxHeartbeats 2000000 in
theorem newbuf_any (R f : Nat) (w : World) (h1 : 1 ≤ R) (h2 : R ≤ 8192) : Calls Try.prog 7 #[.int .i64 (R : Int), .int .u32 (f : Int)] w fun e w' => ∃ gb g d, e = .returned (.tuple #[.pointer (some ⟨gb, 0, none⟩), .int .i64 0]) ∧ BufW w' gb g d (newB R f) ∧ w.heap.size ≤ gb ∧ w.heap.size ≤ g ∧ w.heap.size ≤ d ∧ Below w.heap.size w w' := by
  have t1 : decide ((R : Int) < 1) = false := by rw [decide_eq_false_iff_not]; omega
  have t2 : decide ((8192 : Int) < (R : Int)) = false := by rw [decide_eq_false_iff_not]; omega
  have t3 : decide (8192 < R) = false := by rw [decide_eq_false_iff_not]; omega
  have t4 : decide (R < 1) = false := by rw [decide_eq_false_iff_not]; omega
  obtain ⟨B, hB⟩ : ∃ x, w.heap.size = x := ⟨_, rfl⟩
  rw [hB]
  have HB := hid hB
  clear hB
  go_enter Try.func7, Try.ntmps7
  go_upto_region 3 with fail
  refine wp_region_hand (fun W => B ≤ W.heap.size) (by kernel_rfl) (Nat.le_of_eq HB.out.symm) ?_
  intro hS
  have hb : Below B w ({ w with drawn := w.drawn + 1 } : World) := below_drewN (HB.out ▸ Below.refl _ _) 1
  generalize ({ w with drawn := w.drawn + 1 } : World) = u at hb hS ⊢
  refine wpAnyH_take (i := 0) (oi := ⟨some 12, _, _, _, _, _⟩) (v := ?_) rfl (by kernel_rfl) (by kernel_rfl) (by kernel_rfl) (fun _ _ _ h => h) (Or.inl ⟨by rfl, ?_⟩) hS ?_
  rotate_left 1
  focus ((intro W' hS'; go_simp) <;> with_reducible rfl)
  try simp only [Act.put, List.setIfInBounds_toArray, List.set_cons_zero, List.set_cons_succ]
  refine wpAnyH_take (i := 2) (oi := ⟨some 14, _, _, _, _, _⟩) (v := ?_) rfl (by kernel_rfl) (by kernel_rfl) (by kernel_rfl) (fun _ _ _ h => h) (Or.inl ⟨by rfl, ?_⟩) hS ?_
  rotate_left 1
  focus ((intro W' hS'; go_simp) <;> with_reducible rfl)
  try simp only [Act.put, List.setIfInBounds_toArray, List.set_cons_zero, List.set_cons_succ]
  refine anyH_two (i := 1) (j := 3) (by kernel_rfl) (op_in ⟨some 13, _, _, _, _, _⟩ rfl (by rfl) ?_) (op_in ⟨some 15, _, _, _, _, _⟩ rfl (by rfl) ?_)
  · go_simp
    with_reducible refine Calls.mono (new_any f _) ?_
    rintro e u1 ⟨rfl, hbrd, hb1⟩
    have hgl := hbrd.lt
    have hS1 := hS
    try replace hdat := (hb1.block _ (Array.getElem?_eq_some_iff.1 hdat).1).trans hdat
    replace hb := hb.trans (hb1.mono hS)
    replace hS := Nat.le_trans hS hb1.size
    have hs1 := hb1.size
    refine ⟨hS, ?_⟩
    try simp only [Act.put, List.setIfInBounds_toArray, List.set_cons_zero, List.set_cons_succ]
    refine anyH_one (i := 3) (by kernel_rfl) ⟨some 15, _, _, _, _, _⟩ rfl (by rfl) ?_
    refine wp_make8 (.tmp 14) (.tmp 14) rfl R rfl rfl (by omega) ?_
    intro u2 hdat hb2 hz2
    have hS2 := hS
    have HZ2 := hid hz2
    clear hz2
    try replace hbrd := hbrd.below hb2
    replace hb := hb.trans (hb2.mono hS)
    have hdl := (Array.getElem?_eq_some_iff.1 hdat).1
    replace hS := Nat.le_trans hS hb2.size
    refine ⟨hS, ?_⟩
    try simp only [Act.put, List.setIfInBounds_toArray, List.set_cons_zero, List.set_cons_succ]
    refine wpAnyH_take (i := 4) (oi := ⟨some 16, _, _, _, _, _⟩) (v := ?_) rfl (by kernel_rfl) (by kernel_rfl) (by kernel_rfl) (fun _ _ _ h => h) (Or.inl ⟨by rfl, ?_⟩) hS ?_
    rotate_left 1
    focus ((intro W' hS'; go_simp) <;> with_reducible rfl)
    try simp only [Act.put, List.setIfInBounds_toArray, List.set_cons_zero, List.set_cons_succ]
    refine anyH_one (i := 5) (by kernel_rfl) ⟨some 17, _, _, _, _, _⟩ rfl (by rfl) ?_
    refine wp_boxR 50 (.tmp 16) rfl _ rfl ?_
    intro u3 hblk hb3 hz3
    have HZ3 := hid hz3
    clear hz3
    have HBLK := hid hblk
    clear hblk
    replace hbrd := hbrd.below hb3
    replace hdat := (hb3.block _ (Array.getElem?_eq_some_iff.1 hdat).1).trans hdat
    replace hb := hb.trans (hb3.mono hS)
    have hS5 := hS
    replace hS := Nat.le_trans hS hb3.size
    refine ⟨hS, ?_⟩
    try simp only [Act.put, List.setIfInBounds_toArray, List.set_cons_zero, List.set_cons_succ]
    refine wpAnyH_take (i := 6) (oi := ⟨some 4, _, _, _, _, _⟩) (v := ?_) rfl (by kernel_rfl) (by kernel_rfl) (by kernel_rfl) (fun _ _ _ h => h) (Or.inl ⟨by rfl, ?_⟩) hS ?_
    rotate_left 1
    focus ((intro W' hS'; go_simp) <;> with_reducible rfl)
    try simp only [Act.put, List.setIfInBounds_toArray, List.set_cons_zero, List.set_cons_succ]
    refine wpAnyH_take (i := 7) (oi := ⟨some 5, _, _, _, _, _⟩) (v := ?_) rfl (by kernel_rfl) (by kernel_rfl) (by kernel_rfl) (fun _ _ _ h => h) (Or.inl ⟨by rfl, ?_⟩) hS ?_
    rotate_left 1
    focus ((intro W' hS'; go_simp) <;> with_reducible rfl)
    try simp only [Act.put, List.setIfInBounds_toArray, List.set_cons_zero, List.set_cons_succ]
    refine wpAnyH_done (by kernel_rfl) ?_ _
    go_wp2_with fail
    go_ret2
    have hz2 := HZ2.out
    have hz3 := HZ3.out
    have hblk := HBLK.out
    first
      | exact ⟨u2.heap.size, u.heap.size, u1.heap.size, rfl, ⟨hblk, hbrd, hdat, by omega, by omega, by omega⟩, by omega, by omega, by omega, hb⟩
      | exact ⟨u1.heap.size, u2.heap.size, u.heap.size, rfl, ⟨hblk, hbrd, hdat, by omega, by omega, by omega⟩, by omega, by omega, by omega, hb⟩
  · refine wp_make8 (.tmp 14) (.tmp 14) rfl R rfl rfl (by omega) ?_
    intro u2 hdat hb2 hz2
    have hS2 := hS
    have HZ2 := hid hz2
    clear hz2
    try replace hbrd := hbrd.below hb2
    replace hb := hb.trans (hb2.mono hS)
    have hdl := (Array.getElem?_eq_some_iff.1 hdat).1
    replace hS := Nat.le_trans hS hb2.size
    refine ⟨hS, ?_⟩
    try simp only [Act.put, List.setIfInBounds_toArray, List.set_cons_zero, List.set_cons_succ]
    refine anyH_one (i := 1) (by kernel_rfl) ⟨some 13, _, _, _, _, _⟩ rfl (by rfl) ?_
    go_simp
    with_reducible refine Calls.mono (new_any f _) ?_
    rintro e u1 ⟨rfl, hbrd, hb1⟩
    have hgl := hbrd.lt
    have hS1 := hS
    try replace hdat := (hb1.block _ (Array.getElem?_eq_some_iff.1 hdat).1).trans hdat
    replace hb := hb.trans (hb1.mono hS)
    replace hS := Nat.le_trans hS hb1.size
    have hs1 := hb1.size
    refine ⟨hS, ?_⟩
    try simp only [Act.put, List.setIfInBounds_toArray, List.set_cons_zero, List.set_cons_succ]
    refine wpAnyH_take (i := 4) (oi := ⟨some 16, _, _, _, _, _⟩) (v := ?_) rfl (by kernel_rfl) (by kernel_rfl) (by kernel_rfl) (fun _ _ _ h => h) (Or.inl ⟨by rfl, ?_⟩) hS ?_
    rotate_left 1
    focus ((intro W' hS'; go_simp) <;> with_reducible rfl)
    try simp only [Act.put, List.setIfInBounds_toArray, List.set_cons_zero, List.set_cons_succ]
    refine anyH_one (i := 5) (by kernel_rfl) ⟨some 17, _, _, _, _, _⟩ rfl (by rfl) ?_
    refine wp_boxR 50 (.tmp 16) rfl _ rfl ?_
    intro u3 hblk hb3 hz3
    have HZ3 := hid hz3
    clear hz3
    have HBLK := hid hblk
    clear hblk
    replace hbrd := hbrd.below hb3
    replace hdat := (hb3.block _ (Array.getElem?_eq_some_iff.1 hdat).1).trans hdat
    replace hb := hb.trans (hb3.mono hS)
    have hS5 := hS
    replace hS := Nat.le_trans hS hb3.size
    refine ⟨hS, ?_⟩
    try simp only [Act.put, List.setIfInBounds_toArray, List.set_cons_zero, List.set_cons_succ]
    refine wpAnyH_take (i := 6) (oi := ⟨some 4, _, _, _, _, _⟩) (v := ?_) rfl (by kernel_rfl) (by kernel_rfl) (by kernel_rfl) (fun _ _ _ h => h) (Or.inl ⟨by rfl, ?_⟩) hS ?_
    rotate_left 1
    focus ((intro W' hS'; go_simp) <;> with_reducible rfl)
    try simp only [Act.put, List.setIfInBounds_toArray, List.set_cons_zero, List.set_cons_succ]
    refine wpAnyH_take (i := 7) (oi := ⟨some 5, _, _, _, _, _⟩) (v := ?_) rfl (by kernel_rfl) (by kernel_rfl) (by kernel_rfl) (fun _ _ _ h => h) (Or.inl ⟨by rfl, ?_⟩) hS ?_
    rotate_left 1
    focus ((intro W' hS'; go_simp) <;> with_reducible rfl)
    try simp only [Act.put, List.setIfInBounds_toArray, List.set_cons_zero, List.set_cons_succ]
    refine wpAnyH_done (by kernel_rfl) ?_ _
    go_wp2_with fail
    go_ret2
    have hz2 := HZ2.out
    have hz3 := HZ3.out
    have hblk := HBLK.out
    first
      | exact ⟨u2.heap.size, u.heap.size, u1.heap.size, rfl, ⟨hblk, hbrd, hdat, by omega, by omega, by omega⟩, by omega, by omega, by omega, hb⟩
      | exact ⟨u1.heap.size, u2.heap.size, u.heap.size, rfl, ⟨hblk, hbrd, hdat, by omega, by omega, by omega⟩, by omega, by omega, by omega, hb⟩
end Go.Proofs.Ytblkfpipmdfmkaa
