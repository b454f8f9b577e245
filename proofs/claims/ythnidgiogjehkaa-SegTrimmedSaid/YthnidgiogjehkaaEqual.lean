/- Walk: bytes.Equal; strings out of bytes. -/
import Derived.Test.YthnidgiogjehkaaStr
namespace Go.Proofs.Ythnidgiogjehkaa
set_option linter.unusedVariables false
set_option linter.unusedSimpArgs false
set_option maxRecDepth 20000
open Go.RowKit

theorem loop_toList (b : ByteArray) : ∀ (d i : Nat) (acc : List UInt8), b.size - i = d → ByteArray.toList.loop b i acc = acc.reverse ++ b.data.toList.drop i := by
  intro d
  induction d with
  | zero =>
    intro i acc h
    rw [ByteArray.toList.loop, if_neg (by omega), List.drop_eq_nil_of_le (by simp; show b.size ≤ i; omega), List.append_nil]
  | succ d ih =>
    intro i acc h
    have hi : i < b.data.toList.length := by simp; show i < b.size; omega
    rw [ByteArray.toList.loop, if_pos (by omega), ih (i + 1) _ (by omega), List.drop_eq_getElem_cons hi]
    simp [ByteArray.get!, List.getElem_toArray, Array.getElem!_eq_getD, Array.getD_eq_getD_getElem?]
    rw [Array.getElem?_eq_getElem (by simpa using hi)]
    rfl
theorem toList_strOf (xs : List UInt8) : (strOf xs).toList = xs := by
  unfold ByteArray.toList
  rw [loop_toList _ _ 0 [] rfl]
  simp [strOf]
theorem strOf_beq (xs ys : List UInt8) : ((strOf xs).toList == (strOf ys).toList) = decide (xs = ys) := by
  rw [toList_strOf, toList_strOf, Bool.eq_iff_iff]; simp
theorem bequal_any (u v : Value) (xs ys : List UInt8) (w : World) (hx : RB w u xs) (hy : RB w v ys) :
    Calls Try.prog 37 #[u, v] w fun e w' => e = .returned (.bool (decide (xs = ys))) ∧ w = w' := by
  have q1 := hid (conv_str hx)
  have q2 := hid (conv_str hy)
  have q3 := hid (strOf_beq xs ys)
  obtain ⟨A, c, rfl, _⟩ := hx
  obtain ⟨B, d, rfl, _⟩ := hy
  go_enter Try.func37, Try.ntmps37
  go_wp2_with fail
  rw [q1.out]
  go_wp2_with fail
  rw [q2.out]
  go_wp2_with fail
  go_ret
  exact ⟨congrArg Ending.returned (congrArg Value.bool q3.out), rfl⟩
end Go.Proofs.Ythnidgiogjehkaa
