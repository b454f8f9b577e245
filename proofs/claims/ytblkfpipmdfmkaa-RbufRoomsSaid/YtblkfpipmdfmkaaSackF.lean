/- Walk: Hole. -/
import Derived.Test.YtblkfpipmdfmkaaSackP
import Derived.Deep.DeepCutAuto
import Derived.Deep.QuietTactic
import Derived.BigQuiet
namespace Go.Proofs.Ytblkfpipmdfmkaa
set_option linter.unusedVariables false
set_option linter.unusedSimpArgs false
open Go.RowKit

def holeR : List (Nat × Nat) → Nat → Nat → Nat → Option (Nat × Nat)
  | [], _, _, _ => none
  | x :: xs, k, e, m => if e ≤ x.1 then none else if k < x.1 then some (k, min (x.1 - k) m) else holeR xs (max k x.2) e m
def holeS (f : Nat) (rs : List (Nat × Nat)) (a n : Nat) (m : Int) : Option (Nat × Nat) :=
  if m < 1 then none else holeR rs (if 65536 ≤ aheadS f a then 0 else aheadS f a) (min (aheadS f n) 65536) m.toNat
def holeV (f : Nat) : Option (Nat × Nat) → Value
  | none => .tuple #[.int .u32 0, .int .i64 0, .bool false]
  | some q => .tuple #[.int .u32 (((f + q.1) % 4294967296 : Nat) : Int), .int .i64 (q.2 : Int), .bool true]
theorem holeR_drop (rs : List (Nat × Nat)) (j k e m : Nat) (h : j < rs.length) : holeR (rs.drop j) k e m =
    if e ≤ (rs.getD j (0, 0)).1 then none else if k < (rs.getD j (0, 0)).1 then some (k, min ((rs.getD j (0, 0)).1 - k) m) else holeR (rs.drop (j + 1)) (max k (rs.getD j (0, 0)).2) e m := by
  rw [List.drop_eq_getElem_cons h]
  have e1 : rs.getD j (0, 0) = rs[j] := by simp [List.getD_eq_getElem?_getD, List.getElem?_eq_getElem h]
  rw [e1]
  rfl
end Go.Proofs.Ytblkfpipmdfmkaa
