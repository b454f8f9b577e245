/- How options and segments that come in are opened. -/
import Derived.Test.YthodepdgmcagjaaRowBlk
import Derived.Test.YthodepdgmcagjaaRowAdr
import Derived.Test.YthodepdgmcagjaaOpt
namespace Go.Proofs.Ythodepdgmcagjaa
set_option linter.unusedVariables false
set_option linter.unusedSimpArgs false
open Go.ChangeShapes Go.WideShapes Go.ChangeAt Go.RowKit
theorem list12_take {α : Type} {cs : List α} {a0 a1 a2 a3 a4 a5 a6 a7 a8 a9 a10 a11 : α} (h : 12 ≤ cs.length) (h0 : cs[0]? = some a0) (h1 : cs[1]? = some a1) (h2 : cs[2]? = some a2) (h3 : cs[3]? = some a3) (h4 : cs[4]? = some a4) (h5 : cs[5]? = some a5) (h6 : cs[6]? = some a6) (h7 : cs[7]? = some a7) (h8 : cs[8]? = some a8) (h9 : cs[9]? = some a9) (h10 : cs[10]? = some a10) (h11 : cs[11]? = some a11) :
    cs.take 12 = [a0, a1, a2, a3, a4, a5, a6, a7, a8, a9, a10, a11] := by
  match cs, h with
  | x0 :: x1 :: x2 :: x3 :: x4 :: x5 :: x6 :: x7 :: x8 :: x9 :: x10 :: x11 :: r, _ =>
    simp at h0 h1 h2 h3 h4 h5 h6 h7 h8 h9 h10 h11
    rw [h0, h1, h2, h3, h4, h5, h6, h7, h8, h9, h10, h11]
    rfl
theorem list7_take {α : Type} {cs : List α} {a0 a1 a2 a3 a4 a5 a6 : α} (h : 7 ≤ cs.length) (h0 : cs[0]? = some a0) (h1 : cs[1]? = some a1) (h2 : cs[2]? = some a2) (h3 : cs[3]? = some a3) (h4 : cs[4]? = some a4) (h5 : cs[5]? = some a5) (h6 : cs[6]? = some a6) :
    cs.take 7 = [a0, a1, a2, a3, a4, a5, a6] := by
  match cs, h with
  | x0 :: x1 :: x2 :: x3 :: x4 :: x5 :: x6 :: r, _ =>
    simp at h0 h1 h2 h3 h4 h5 h6
    rw [h0, h1, h2, h3, h4, h5, h6]
    rfl
theorem nat_of {n k : Int} (h : 0 ≤ n ∧ n ≤ k) : ∃ m : Nat, n = (m : Int) := Int.eq_ofNat_of_zero_le h.1
section
variable {H : Type} {enc : TypeId × Value → H} {w : World} {base : Nat} {spare : Nat → Bool} {held : Bool}
theorem open_opt {fuel : Nat} {cs : List Value} {x : DataW H × List MemPlace} (h : DataW.trod enc Try.prog w base spare held fuel 27 cs = some x) : ∃ o : OptM, cs = o.cells.toList ∧ OptOk w o := by
  have c24 : Try.prog.cellsOf 27 = 24 := by kernel_rfl
  have c12 : Try.prog.cellsOf 25 = 12 := by kernel_rfl
  obtain ⟨hl, m, hf⟩ := trod_fld Try.underlying27 h
  rw [c24] at hl
  obtain ⟨b0, e0⟩ := fld_bool Try.underlying4 (by kernel_rfl) (hf 0 _ rfl)
  obtain ⟨n1, e1, w1⟩ := fld_int Try.underlying22 (by kernel_rfl) (hf 1 _ rfl)
  obtain ⟨b2, e2⟩ := fld_bool Try.underlying4 (by kernel_rfl) (hf 2 _ rfl)
  obtain ⟨n3, e3, w3⟩ := fld_int Try.underlying5 (by kernel_rfl) (hf 3 _ rfl)
  obtain ⟨b4, e4⟩ := fld_bool Try.underlying4 (by kernel_rfl) (hf 4 _ rfl)
  obtain ⟨A, c, bs, e5, hr, hok⟩ := fld_blocks (o := 5) (by rw [hl]; decide) (hf 5 _ rfl)
  obtain ⟨b6, e6⟩ := fld_bool Try.underlying4 (by kernel_rfl) (hf 6 _ rfl)
  obtain ⟨n7, e7, w7⟩ := fld_int Try.underlying24 (by kernel_rfl) (hf 7 _ rfl)
  obtain ⟨n8, e8, w8⟩ := fld_int Try.underlying24 (by kernel_rfl) (hf 8 _ rfl)
  obtain ⟨b9, e9⟩ := fld_bool Try.underlying4 (by kernel_rfl) (hf 9 _ rfl)
  obtain ⟨n10, e10, w10⟩ := fld_int Try.underlying5 (by kernel_rfl) (hf 10 _ rfl)
  obtain ⟨n11, e11, w11⟩ := fld_int Try.underlying5 (by kernel_rfl) (hf 11 _ rfl)
  obtain ⟨y12, g12⟩ := hf 12 _ rfl
  obtain ⟨mac, hm, hmc⟩ := open_u8s Try.underlying25 Try.underlying5 (by kernel_rfl) c12 g12
  have hmc : (cs.drop 12).take 12 = by8 mac := by
    have t : (cs.drop 12).take (Try.prog.cellsOf 25) = _ := hmc
    rw [c12] at t
    exact t
  have q1 := wf_u16 w1
  have q3 := wf_u8 w3
  have q7 := wf_u32 w7
  have q8 := wf_u32 w8
  have q10 := wf_u8 w10
  have q11 := wf_u8 w11
  obtain ⟨m1, rfl⟩ := nat_of q1
  obtain ⟨m3, rfl⟩ := nat_of q3
  obtain ⟨m7, rfl⟩ := nat_of q7
  obtain ⟨m8, rfl⟩ := nat_of q8
  obtain ⟨m10, rfl⟩ := nat_of q10
  obtain ⟨m11, rfl⟩ := nat_of q11
  refine ⟨⟨b0, m1, b2, m3, b4, A, c, bs, b6, m7, m8, b9, m10, m11, mac⟩, ?_, ⟨by simp only; omega, by simp only; omega, by simp only; omega, by simp only; omega, by simp only; omega, by simp only; omega, hm, hr, hok⟩⟩
  have ht := list12_take (by omega) e0 e1 e2 e3 e4 e5 e6 e7 e8 e9 e10 e11
  have : cs = cs.take 12 ++ (cs.drop 12).take 12 := by
    rw [List.take_of_length_le (l := cs.drop 12) (by rw [List.length_drop]; omega), List.take_append_drop]
  rw [this, ht, hmc]
  rfl
end
end Go.Proofs.Ythodepdgmcagjaa
