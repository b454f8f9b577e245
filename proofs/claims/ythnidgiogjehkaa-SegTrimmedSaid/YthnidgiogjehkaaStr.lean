/- Bytes as a string. -/
import Derived.Test.YthnidgiogjehkaaU8
import Derived.Laws.BytesArg
import Derived.Laws.BytesString
namespace Go.Proofs.Ythnidgiogjehkaa
set_option linter.unusedVariables false
set_option linter.unusedSimpArgs false
open Go.RowKit

/-- The text of bytes. -/
def strOf (xs : List UInt8) : ByteArray := ⟨xs.toArray⟩
theorem strOf_inj {xs ys : List UInt8} (h : strOf xs = strOf ys) : xs = ys := by
  unfold strOf at h
  injection h with h
  simpa using congrArg Array.toList h
theorem strOf_append (xs ys : List UInt8) : strOf (xs ++ ys) = strOf xs ++ strOf ys := by
  apply ByteArray.ext
  simp [strOf, ByteArray.data_append]
theorem strOf_size (xs : List UInt8) : (strOf xs).size = xs.length := by simp [strOf, ByteArray.size]
theorem conv_str {w : World} {v : Value} {xs : List UInt8} (h : RB w v xs) : (convert 32 9 v).run Try.prog w = .ok (.string (strOf xs)) w := by
  obtain ⟨A, c, rfl, hrow⟩ := h
  rcases A with _ | ad
  · have hx : xs = [] := by
      rcases xs with _ | ⟨x, l⟩
      · rfl
      · obtain ⟨ad, h, _⟩ := hrow.at_ 0 _ rfl
        cases h
    subst hx
    exact run_convert_bytes_nil w _ _ Try.underlying32 Try.underlying5 _ _ _ Try.underlying9
  · have hl : (loadCells ad xs.length).run Try.prog w = .ok ((xs.map fun x => (x.toNat : Int)).map (Value.int .u8)).toArray w := by
      have := run_loadCells_list (P := Try.prog) w ad (by8 xs) (fun j v hj => hrow.get j v hj)
      rw [by8_length] at this
      have e : (xs.map fun x => (x.toNat : Int)).map (Value.int .u8) = by8 xs := by unfold by8 u8; rw [List.map_map]; rfl
      rw [e]; exact this
    rw [run_convert_bytes_string w _ _ _ _ _ _ Try.underlying32 Try.underlying5 Try.underlying9, run_bytesToString w _ xs.length c _ hl, foldl_push_bytes]
    simp [strOf, ByteArray.empty, ByteArray.emptyWithCapacity, Function.comp_def]
    rfl
end Go.Proofs.Ythnidgiogjehkaa
