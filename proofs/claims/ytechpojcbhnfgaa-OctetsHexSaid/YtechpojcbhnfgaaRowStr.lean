/- How strings that come in are opened. -/
import Derived.Test.YtechpojcbhnfgaaRow
import Derived.Test.YtechpojcbhnfgaaStr
namespace Go.Proofs.Ytechpojcbhnfgaa
theorem str_of (s : ByteArray) : ∃ xs, s = strOf xs := ⟨s.data.toList, by apply ByteArray.ext; simp [strOf]⟩
theorem str_len {xs : List UInt8} (h : (strOf xs).size ≤ maxLen) : xs.length ≤ 9223372036854775807 := by
  rw [strOf_size] at h; exact h
end Go.Proofs.Ytechpojcbhnfgaa
