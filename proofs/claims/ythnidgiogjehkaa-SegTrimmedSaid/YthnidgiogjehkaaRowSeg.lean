/- How options and segments that come in are opened. -/
import Derived.Test.YthnidgiogjehkaaRowBlk
import Derived.Test.YthnidgiogjehkaaRowAdr
import Derived.Test.YthnidgiogjehkaaOpt
namespace Go.Proofs.Ythnidgiogjehkaa
set_option linter.unusedVariables false
set_option linter.unusedSimpArgs false
set_option maxRecDepth 20000
open Go.ChangeShapes Go.WideShapes Go.ChangeAt Go.RowKit
theorem list12_take {α : Type} {cs : List α} {a0 a1 a2 a3 a4 a5 a6 a7 a8 a9 a10 a11 : α} (h : 12 ≤ cs.length) (h0 : cs[0]? = some a0) (h1 : cs[1]? = some a1) (h2 : cs[2]? = some a2) (h3 : cs[3]? = some a3) (h4 : cs[4]? = some a4) (h5 : cs[5]? = some a5) (h6 : cs[6]? = some a6) (h7 : cs[7]? = some a7) (h8 : cs[8]? = some a8) (h9 : cs[9]? = some a9) (h10 : cs[10]? = some a10) (h11 : cs[11]? = some a11) :
    cs.take 12 = [a0, a1, a2, a3, a4, a5, a6, a7, a8, a9, a10, a11] := by
  match cs, h with
  | x0 :: x1 :: x2 :: x3 :: x4 :: x5 :: x6 :: x7 :: x8 :: x9 :: x10 :: x11 :: r, _ =>
    simp at h0 h1 h2 h3 h4 h5 h6 h7 h8 h9 h10 h11
    rw [h0, h1, h2, h3, h4, h5, h6, h7, h8, h9, h10, h11]
    rfl
theorem list7_take {α : Type} {cs : List α} {a0 a1 a2 a3 a4 a5 a6 : α} (h : 7 ≤ cs.length) (h0 : cs[0]? = some a0) (h1 : cs[1]? = some a1) (h2 : cs[2]? = some a2) (h3 : cs[3]? = some a3) (h4 : cs[4]? = some a4) (h5 : cs[5]? = some a5) (h6 : cs[6]? = some a6) :
    cs.take 7 = [a0, a1, a2, a3, a4, a5, a6] := by
  match cs, h with
  | x0 :: x1 :: x2 :: x3 :: x4 :: x5 :: x6 :: r, _ =>
    simp at h0 h1 h2 h3 h4 h5 h6
    rw [h0, h1, h2, h3, h4, h5, h6]
    rfl
theorem nat_of {n k : Int} (h : 0 ≤ n ∧ n ≤ k) : ∃ m : Nat, n = (m : Int) := Int.eq_ofNat_of_zero_le h.1
section
variable {H : Type} {enc : TypeId × Value → H} {w : World} {base : Nat} {spare : Nat → Bool} {held : Bool}
theorem open_opt {fuel : Nat} {cs : List Value} {x : DataW H × List MemPlace} (h : DataW.trod enc Try.prog w base spare held fuel 31 cs = some x) : ∃ o : OptM, cs = o.cells.toList ∧ OptOk w o := by
  have c24 : Try.prog.cellsOf 31 = 24 := by kernel_rfl
  have c12 : Try.prog.cellsOf 29 = 12 := by kernel_rfl
  obtain ⟨hl, m, hf⟩ := trod_fld Try.underlying31 h
  rw [c24] at hl
  obtain ⟨b0, e0⟩ := fld_bool Try.underlying4 (by kernel_rfl) (hf 0 _ rfl)
  obtain ⟨n1, e1, w1⟩ := fld_int Try.underlying26 (by kernel_rfl) (hf 1 _ rfl)
  obtain ⟨b2, e2⟩ := fld_bool Try.underlying4 (by kernel_rfl) (hf 2 _ rfl)
  obtain ⟨n3, e3, w3⟩ := fld_int Try.underlying5 (by kernel_rfl) (hf 3 _ rfl)
  obtain ⟨b4, e4⟩ := fld_bool Try.underlying4 (by kernel_rfl) (hf 4 _ rfl)
  obtain ⟨A, c, bs, e5, hr, hok⟩ := fld_blocks (o := 5) (by rw [hl]; decide) (hf 5 _ rfl)
  obtain ⟨b6, e6⟩ := fld_bool Try.underlying4 (by kernel_rfl) (hf 6 _ rfl)
  obtain ⟨n7, e7, w7⟩ := fld_int Try.underlying27 (by kernel_rfl) (hf 7 _ rfl)
  obtain ⟨n8, e8, w8⟩ := fld_int Try.underlying27 (by kernel_rfl) (hf 8 _ rfl)
  obtain ⟨b9, e9⟩ := fld_bool Try.underlying4 (by kernel_rfl) (hf 9 _ rfl)
  obtain ⟨n10, e10, w10⟩ := fld_int Try.underlying5 (by kernel_rfl) (hf 10 _ rfl)
  obtain ⟨n11, e11, w11⟩ := fld_int Try.underlying5 (by kernel_rfl) (hf 11 _ rfl)
  obtain ⟨y12, g12⟩ := hf 12 _ rfl
  obtain ⟨mac, hm, hmc⟩ := open_u8s Try.underlying29 Try.underlying5 (by kernel_rfl) c12 g12
  have hmc : (cs.drop 12).take 12 = by8 mac := by
    have t : (cs.drop 12).take (Try.prog.cellsOf 29) = _ := hmc
    rw [c12] at t
    exact t
  have q1 := wf_u16 w1
  have q3 := wf_u8 w3
  have q7 := wf_u32 w7
  have q8 := wf_u32 w8
  have q10 := wf_u8 w10
  have q11 := wf_u8 w11
  obtain ⟨m1, rfl⟩ := nat_of q1
  obtain ⟨m3, rfl⟩ := nat_of q3
  obtain ⟨m7, rfl⟩ := nat_of q7
  obtain ⟨m8, rfl⟩ := nat_of q8
  obtain ⟨m10, rfl⟩ := nat_of q10
  obtain ⟨m11, rfl⟩ := nat_of q11
  refine ⟨⟨b0, m1, b2, m3, b4, A, c, bs, b6, m7, m8, b9, m10, m11, mac⟩, ?_, ⟨by simp only; omega, by simp only; omega, by simp only; omega, by simp only; omega, by simp only; omega, by simp only; omega, hm, hr, hok⟩⟩
  have ht := list12_take (by omega) e0 e1 e2 e3 e4 e5 e6 e7 e8 e9 e10 e11
  have : cs = cs.take 12 ++ (cs.drop 12).take 12 := by
    rw [List.take_of_length_le (l := cs.drop 12) (by rw [List.length_drop]; omega), List.take_append_drop]
  rw [this, ht, hmc]
  rfl
theorem arg_seg {r : Reach} {b0 : Nat} {v : Value} {d : DataW H} {ps : List MemPlace} (hv : Value.okWide Try.prog w r b0 34 v) (h : DataW.Trod enc Try.prog w base spare held 34 v d ps) : ∃ s : SegM, v = .agg s.cells ∧ SegOk w s := by
  have c32 : Try.prog.cellsOf 34 = 32 := by kernel_rfl
  have c24 : Try.prog.cellsOf 31 = 24 := by kernel_rfl
  obtain ⟨cs, rfl, m, y, h1⟩ := arg_struct Try.underlying34 hv h
  obtain ⟨hl, m, hf⟩ := trod_fld Try.underlying34 h1
  rw [c32] at hl
  obtain ⟨n0, e0, w0⟩ := fld_int Try.underlying26 (by kernel_rfl) (hf 0 _ rfl)
  obtain ⟨n1, e1, w1⟩ := fld_int Try.underlying26 (by kernel_rfl) (hf 1 _ rfl)
  obtain ⟨n2, e2, w2⟩ := fld_int Try.underlying27 (by kernel_rfl) (hf 2 _ rfl)
  obtain ⟨n3, e3, w3⟩ := fld_int Try.underlying27 (by kernel_rfl) (hf 3 _ rfl)
  obtain ⟨n4, e4, w4⟩ := fld_int Try.underlying5 (by kernel_rfl) (hf 4 _ rfl)
  obtain ⟨n5, e5, w5⟩ := fld_int Try.underlying26 (by kernel_rfl) (hf 5 _ rfl)
  obtain ⟨n6, e6, w6⟩ := fld_int Try.underlying26 (by kernel_rfl) (hf 6 _ rfl)
  obtain ⟨y7, g7⟩ := hf 7 _ rfl
  obtain ⟨o, ho, hoo⟩ := open_opt g7
  have ho : (cs.toList.drop 7).take 24 = o.cells.toList := by
    have t : (cs.toList.drop 7).take (Try.prog.cellsOf 31) = _ := ho
    rw [c24] at t
    exact t
  obtain ⟨u, xs, e8, hr⟩ := fld_rb Try.underlying32 Try.underlying5 (by kernel_rfl) (by kernel_rfl) (by rw [hl]; decide) (hf 8 _ rfl)
  have e8 : cs.toList[31]? = some u := e8
  have q0 := wf_u16 w0
  have q1 := wf_u16 w1
  have q2 := wf_u32 w2
  have q3 := wf_u32 w3
  have q4 := wf_u8 w4
  have q5 := wf_u16 w5
  have q6 := wf_u16 w6
  obtain ⟨m0, rfl⟩ := nat_of q0
  obtain ⟨m1, rfl⟩ := nat_of q1
  obtain ⟨m2, rfl⟩ := nat_of q2
  obtain ⟨m3, rfl⟩ := nat_of q3
  obtain ⟨m4, rfl⟩ := nat_of q4
  obtain ⟨m5, rfl⟩ := nat_of q5
  obtain ⟨m6, rfl⟩ := nat_of q6
  have hr2 := hr
  obtain ⟨D, dc, rfl, _⟩ := hr
  refine ⟨⟨m0, m1, m2, m3, m4, m5, m6, o, D, dc, xs⟩, ?_, ⟨by simp only; omega, by simp only; omega, by simp only; omega, by simp only; omega, by simp only; omega, by simp only; omega, by simp only; omega, hoo, hr2⟩⟩
  congr 1
  apply Array.toList_inj.1
  have ht := list7_take (by omega) e0 e1 e2 e3 e4 e5 e6
  have h31 : cs.toList.drop 31 = [.slice D xs.length dc] := by
    have hlen : (cs.toList.drop 31).length = 1 := by rw [List.length_drop]; omega
    have h0 : (cs.toList.drop 31)[0]? = some (.slice D xs.length dc) := by rw [List.getElem?_drop]; exact e8
    generalize cs.toList.drop 31 = ds at hlen h0
    match ds, hlen with
    | [z], _ => simp at h0; rw [h0]
  have : cs.toList = cs.toList.take 7 ++ ((cs.toList.drop 7).take 24 ++ cs.toList.drop 31) := by
    have e : cs.toList.drop 31 = (cs.toList.drop 7).drop 24 := by rw [List.drop_drop]
    rw [e, List.take_append_drop, List.take_append_drop]
  rw [this, ht, ho, h31]
  unfold SegM.cells
  simp
end
end Go.Proofs.Ythnidgiogjehkaa
