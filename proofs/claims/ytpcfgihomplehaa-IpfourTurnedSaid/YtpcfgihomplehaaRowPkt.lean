/- How packets of IP that come in are opened. -/
import Derived.Test.YtpcfgihomplehaaRowS
import Derived.Test.YtpcfgihomplehaaRowAdr
import Derived.Test.YtpcfgihomplehaaPktA
namespace Go.Proofs.Ytpcfgihomplehaa
set_option linter.unusedVariables false
set_option linter.unusedSimpArgs false
open Go.ChangeShapes Go.WideShapes Go.ChangeAt Go.RowKit
theorem list7_at {α : Type} {cs : List α} {n : Nat} {a b c d e f g : α} (h : cs.length = n + 7) (h0 : cs[n]? = some a) (h1 : cs[n + 1]? = some b) (h2 : cs[n + 2]? = some c) (h3 : cs[n + 3]? = some d) (h4 : cs[n + 4]? = some e) (h5 : cs[n + 5]? = some f) (h6 : cs[n + 6]? = some g) :
    cs.drop n = [a, b, c, d, e, f, g] := by
  have hl : (cs.drop n).length = 7 := by rw [List.length_drop]; omega
  have k : ∀ i, (cs.drop n)[i]? = cs[n + i]? := fun i => List.getElem?_drop
  have k0 := (k 0).trans h0
  have k1 := (k 1).trans h1
  have k2 := (k 2).trans h2
  have k3 := (k 3).trans h3
  have k4 := (k 4).trans h4
  have k5 := (k 5).trans h5
  have k6 := (k 6).trans h6
  clear k h0 h1 h2 h3 h4 h5 h6 h
  generalize cs.drop n = ds at *
  match ds, hl with
  | [x0, x1, x2, x3, x4, x5, x6], _ => simp at k0 k1 k2 k3 k4 k5 k6; rw [k0, k1, k2, k3, k4, k5, k6]
theorem u8_back {n : Int} (h : 0 ≤ n ∧ n ≤ 255) : ((UInt8.ofNat n.toNat).toNat : Int) = n := by
  have : (UInt8.ofNat n.toNat).toNat = n.toNat := by simp; omega
  rw [this, Int.toNat_of_nonneg h.1]
theorem u8_of {n : Int} (h : (Lit.int .u8 n).wf = true) : ∃ y : UInt8, n = (y.toNat : Int) := ⟨UInt8.ofNat n.toNat, (u8_back (wf_u8 h)).symm⟩
section
variable {H : Type} {enc : TypeId × Value → H} {w : World} {base : Nat} {spare : Nat → Bool} {held : Bool}
theorem arg_pkt {r : Reach} {b0 : Nat} {v : Value} {d : DataW H} {ps : List MemPlace} (hv : Value.okWide Try.prog w r b0 28 v) (h : DataW.Trod enc Try.prog w base spare held 28 v d ps) : ∃ (p : Pkt) (dv : Value), v = p.v dv ∧ p.Ok ∧ RB w dv p.load := by
  have c41 : Try.prog.cellsOf 28 = 41 := by kernel_rfl
  have c17 : Try.prog.cellsOf 24 = 17 := by kernel_rfl
  obtain ⟨cs, rfl, m, y, h1⟩ := arg_struct Try.underlying28 hv h
  obtain ⟨hl, m, hf⟩ := trod_fld Try.underlying28 h1
  obtain ⟨y0, g0⟩ := hf 0 _ rfl
  obtain ⟨y1, g1⟩ := hf 1 _ rfl
  obtain ⟨a, ha⟩ := open_adr g0
  obtain ⟨b, hb⟩ := open_adr g1
  obtain ⟨n2, e2, w2⟩ := fld_int Try.underlying5 (by kernel_rfl) (hf 2 _ rfl)
  obtain ⟨n3, e3, w3⟩ := fld_int Try.underlying5 (by kernel_rfl) (hf 3 _ rfl)
  obtain ⟨n4, e4, w4⟩ := fld_int Try.underlying25 (by kernel_rfl) (hf 4 _ rfl)
  obtain ⟨n5, e5⟩ := fld_bool Try.underlying4 (by kernel_rfl) (hf 5 _ rfl)
  obtain ⟨n6, e6⟩ := fld_bool Try.underlying4 (by kernel_rfl) (hf 6 _ rfl)
  obtain ⟨n7, e7, w7⟩ := fld_int Try.underlying3 (by kernel_rfl) (hf 7 _ rfl)
  obtain ⟨u, xs, e8, hr⟩ := fld_rb Try.underlying26 Try.underlying5 (by kernel_rfl) (by kernel_rfl) (by rw [hl, c41]; decide) (hf 8 _ rfl)
  have q2 : 0 ≤ n2 ∧ n2 ≤ 255 := wf_u8 w2
  have q3 : 0 ≤ n3 ∧ n3 ≤ 255 := wf_u8 w3
  have q4 : 0 ≤ n4 ∧ n4 ≤ 4294967295 := wf_u32 w4
  refine ⟨⟨a, b, UInt8.ofNat n2.toNat, UInt8.ofNat n3.toNat, n4.toNat, n5, n6, n7, xs⟩, u, ?_, ⟨by simp only; omega, wf_i64 w7⟩, hr⟩
  have h7 := list7_at (n := 34) (by rw [hl, c41]) e2 e3 e4 e5 e6 e7 e8
  have ha : cs.toList.take 17 = a.cells.toList := by
    have t : (cs.toList.drop 0).take (Try.prog.cellsOf 24) = _ := ha
    rw [c17] at t
    exact t
  have hb : (cs.toList.drop 17).take 17 = b.cells.toList := by
    have t : (cs.toList.drop 17).take (Try.prog.cellsOf 24) = _ := hb
    rw [c17] at t
    exact t
  have hcs : cs.toList = a.cells.toList ++ (b.cells.toList ++ [.int .u8 n2, .int .u8 n3, .int .u32 n4, .bool n5, .bool n6, .int .i64 n7, u]) := by
    rw [← ha, ← hb, ← h7]
    have : cs.toList.drop 34 = (cs.toList.drop 17).drop 17 := by rw [List.drop_drop]
    rw [this, List.take_append_drop, List.take_append_drop]
  unfold Pkt.v
  refine congrArg Value.agg (Array.toList_inj.1 ?_)
  rw [hcs]
  unfold Pkt.cells Pkt.rest
  simp only [u8_back q2, u8_back q3, Int.toNat_of_nonneg q4.1]
end
end Go.Proofs.Ytpcfgihomplehaa
