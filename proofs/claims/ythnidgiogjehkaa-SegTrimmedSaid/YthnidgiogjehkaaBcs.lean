/- Blocks (api.Block) in memory. -/
import Derived.Test.YthnidgiogjehkaaMem
namespace Go.Proofs.Ythnidgiogjehkaa
set_option linter.unusedVariables false
set_option linter.unusedSimpArgs false
open Go.RowKit

theorem run_add_lit (a : Addr) (k : Nat) (hk : 0 < k) : a.add k = ⟨a.block, a.off + k, none⟩ := by
  unfold Addr.add
  rw [if_neg (by omega)]
/-- Blocks in memory. -/
def bcs (bs : List (Nat × Nat)) : List Value := bs.flatMap fun b => [.int .u32 (b.1 : Int), .int .u32 (b.2 : Int)]
theorem bcs_length (bs : List (Nat × Nat)) : (bcs bs).length = 2 * bs.length := by
  induction bs with
  | nil => rfl
  | cons r rs ih => simp only [bcs, List.flatMap_cons, List.length_append, List.length_cons, List.length_nil] at *; omega
theorem bcs_at (bs : List (Nat × Nat)) : ∀ (k : Nat), k < bs.length → (bcs bs)[2 * k]? = some (.int .u32 ((bs.getD k (0, 0)).1 : Int)) ∧ (bcs bs)[2 * k + 1]? = some (.int .u32 ((bs.getD k (0, 0)).2 : Int)) := by
  induction bs with
  | nil => intro k h; simp at h
  | cons r rs ih =>
    intro k h
    cases k with
    | zero => exact ⟨rfl, rfl⟩
    | succ k =>
      have := ih k (by simp at h; omega)
      have e : bcs (r :: rs) = .int .u32 (r.1 : Int) :: .int .u32 (r.2 : Int) :: bcs rs := rfl
      rw [e, show 2 * (k + 1) = 2 * k + 1 + 1 by omega, show 2 * k + 1 + 1 + 1 = (2 * k + 1) + 1 + 1 by omega]
      simpa using this
def OkB (bs : List (Nat × Nat)) : Prop := ∀ b ∈ bs, b.1 < 4294967296 ∧ b.2 < 4294967296
theorem OkB.get {bs : List (Nat × Nat)} (h : OkB bs) (k : Nat) (hk : k < bs.length) : (bs.getD k (0, 0)).1 < 4294967296 ∧ (bs.getD k (0, 0)).2 < 4294967296 := by
  have e : bs.getD k (0, 0) = bs[k] := by simp [List.getD_eq_getElem?_getD, List.getElem?_eq_getElem hk]
  rw [e]
  exact h _ (List.getElem_mem hk)
theorem Row.blk {w : World} {a : Addr} {n c : Nat} {bs : List (Nat × Nat)} (h : Row w 2 (some a) n c (bcs bs)) (k : Nat) (hk : k < bs.length) :
    w.cell? (a.add (k * 2)) = some (.int .u32 ((bs.getD k (0, 0)).1 : Int)) ∧ w.cell? ⟨(a.add (k * 2)).block, (a.add (k * 2)).off + 1, none⟩ = some (.int .u32 ((bs.getD k (0, 0)).2 : Int)) := by
  obtain ⟨h1, h2⟩ := bcs_at bs k hk
  have e1 := h.get _ _ h1
  have e2 := h.get _ _ h2
  refine ⟨by rw [show k * 2 = 2 * k by omega]; exact e1, ?_⟩
  rw [← run_add_lit _ 1 (by omega), add_add, show k * 2 + 1 = 2 * k + 1 by omega]
  exact e2
end Go.Proofs.Ythnidgiogjehkaa
