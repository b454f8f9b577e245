/- How blocks (api.Block) that come in are opened. -/
import Derived.Test.YthnidgiogjehkaaRowS
import Derived.Test.YthnidgiogjehkaaBcs
namespace Go.Proofs.Ythnidgiogjehkaa
set_option linter.unusedVariables false
set_option linter.unusedSimpArgs false
open Go.ChangeShapes Go.WideShapes Go.ChangeAt Go.RowKit
theorem flat_len {α : Type} (cf : α → List Value) (sz : Nat) (hc : ∀ x, (cf x).length = sz) : ∀ xs : List α, (xs.flatMap cf).length = xs.length * sz
  | [] => by simp
  | x :: xs => by rw [List.flatMap_cons, List.length_append, hc, flat_len cf sz hc xs, List.length_cons, Nat.succ_mul]; omega
theorem flat_get {α : Type} (cf : α → List Value) (sz : Nat) (hc : ∀ x, (cf x).length = sz) : ∀ (xs : List α) (i : Nat) (v : Value), (xs.flatMap cf)[i]? = some v → ∃ k j x, xs[k]? = some x ∧ (cf x)[j]? = some v ∧ i = k * sz + j
  | [], i, v, h => by simp at h
  | x :: xs, i, v, h => by
    rw [List.flatMap_cons] at h
    rcases Nat.lt_or_ge i sz with hi | hi
    · rw [List.getElem?_append_left (by rw [hc]; exact hi)] at h
      exact ⟨0, i, x, rfl, h, by omega⟩
    · rw [List.getElem?_append_right (by rw [hc]; exact hi), hc] at h
      obtain ⟨k, j, y, h1, h2, h3⟩ := flat_get cf sz hc xs _ v h
      exact ⟨k + 1, j, y, h1, h2, by rw [Nat.succ_mul]; omega⟩
theorem row_flat {α : Type} (cf : α → List Value) (sz : Nat) (hc : ∀ x, (cf x).length = sz) (w : World) (A : Option Addr) (c : Nat) (xs : List α) (h1 : xs.length ≤ c) (h2 : c ≤ 9223372036854775807)
    (h : ∀ k x, xs[k]? = some x → ∃ a : Addr, A = some a ∧ ∀ (j : Nat) v, (cf x)[j]? = some v → w.cell? ((a.add (k * sz)).add j) = some v) : Row w sz A xs.length c (xs.flatMap cf) := by
  refine ⟨flat_len cf sz hc xs, h1, h2, fun i v hv => ?_⟩
  obtain ⟨k, j, x, h3, h4, rfl⟩ := flat_get cf sz hc xs i v hv
  obtain ⟨a, rfl, h5⟩ := h k x h3
  exact ⟨a, rfl, by rw [← add_add]; exact h5 j v h4⟩
theorem list2 {α : Type} {cs : List α} {a b : α} (h : cs.length = 2) (h0 : cs[0]? = some a) (h1 : cs[1]? = some b) : cs = [a, b] := by
  match cs, h with
  | [x0, x1], _ => simp at h0 h1; rw [h0, h1]
section
variable {H : Type} {enc : TypeId × Value → H} {w : World} {base : Nat} {spare : Nat → Bool} {held : Bool}
theorem open_blk {fuel : Nat} {cs : List Value} {x : DataW H × List MemPlace} (h : DataW.trod enc Try.prog w base spare held fuel 84 cs = some x) : ∃ b : Nat × Nat, cs = [.int .u32 (b.1 : Int), .int .u32 (b.2 : Int)] ∧ b.1 < 4294967296 ∧ b.2 < 4294967296 := by
  have c2 : Try.prog.cellsOf 84 = 2 := by kernel_rfl
  obtain ⟨hl, m, hf⟩ := trod_fld Try.underlying84 h
  obtain ⟨n0, e0, w0⟩ := fld_int Try.underlying27 (by kernel_rfl) (hf 0 _ rfl)
  obtain ⟨n1, e1, w1⟩ := fld_int Try.underlying27 (by kernel_rfl) (hf 1 _ rfl)
  have := wf_u32 w0
  have := wf_u32 w1
  obtain ⟨a, rfl⟩ := Int.eq_ofNat_of_zero_le (show 0 ≤ n0 by omega)
  obtain ⟨b, rfl⟩ := Int.eq_ofNat_of_zero_le (show 0 ≤ n1 by omega)
  exact ⟨(a, b), list2 (by rw [hl, c2]) e0 e1, by omega, by omega⟩
theorem fld_blocks {m : Nat} {cs : List Value} {o : Nat} (ho : o < cs.length)
    (h : ∃ y, DataW.trod enc Try.prog w base spare held m 28 ((cs.drop o).take (Try.prog.cellsOf 28)) = some y) : ∃ A c bs, cs[o]? = some (.slice A bs.length c) ∧ Row w 2 A bs.length c (bcs bs) ∧ OkB bs := by
  have c1 : Try.prog.cellsOf 28 = 1 := by kernel_rfl
  have c2 : Try.prog.cellsOf 84 = 2 := by kernel_rfl
  obtain ⟨y, h⟩ := h
  rw [c1] at h
  have e1 : (cs.drop o).take 1 = [cs[o]] := by rw [List.drop_eq_getElem_cons ho]; rfl
  rw [e1] at h
  obtain ⟨A, n, c, hu, h1, h2, _, h3⟩ := open_rows Try.underlying28 h
  obtain ⟨bs, hl, hs⟩ := list_choose (fun k (b : Nat × Nat) => (b.1 < 4294967296 ∧ b.2 < 4294967296) ∧ ∃ a : Addr, A = some a ∧ ∀ (j : Nat) u, [Value.int .u32 (b.1 : Int), .int .u32 (b.2 : Int)][j]? = some u → w.cell? ((a.add (k * 2)).add j) = some u) n (fun k hk => by
    obtain ⟨a, rfl, ds, _, h5, m, y, h6⟩ := h3 k hk
    obtain ⟨b, rfl, hs⟩ := open_blk h6
    rw [c2] at h5
    exact ⟨b, hs, a, rfl, h5⟩)
  subst hl
  refine ⟨A, c, bs, by rw [List.getElem?_eq_getElem ho, hu], row_flat (fun b : Nat × Nat => [Value.int .u32 (b.1 : Int), .int .u32 (b.2 : Int)]) 2 (fun _ => rfl) w A c bs h1 h2 fun k x hk => (hs k x hk).2, fun b hb => ?_⟩
  obtain ⟨k, hk, rfl⟩ := List.getElem_of_mem hb
  exact (hs k _ (List.getElem?_eq_getElem hk)).1
end
end Go.Proofs.Ythnidgiogjehkaa
