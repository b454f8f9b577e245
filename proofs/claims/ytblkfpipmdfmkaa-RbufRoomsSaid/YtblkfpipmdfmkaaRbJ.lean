/- Walk: Insert of a buffer. -/
import Derived.Test.YtblkfpipmdfmkaaRbI
namespace Go.Proofs.Ytblkfpipmdfmkaa
set_option linter.unusedVariables false
set_option linter.unusedSimpArgs false
open Go.RowKit

theorem BOk.lay {m : BufP} (h : BOk m) {ys : List UInt8} (hy : ys.length = m.R) : BOk { m with xs := ys } := ⟨h.r1, h.r2, h.beg, h.n, h.f, h.last, hy, h.apart, h.win⟩
/-- Has and place at a number that is x ahead of the next one. -/
theorem hasB_any (gb g d : Nat) (m : BufP) (x num : Nat) (w : World) (h : BufW w gb g d m) (hk : BOk m) (hx : x < M32) (hnum : (m.f + x) % M32 = num) : Calls Try.prog 29 #[.pointer (some ⟨g, 0, none⟩), .int .u32 (num : Int)] w fun e w' => e = .returned (.bool (hasR m.rs x)) ∧ Below w.heap.size w w' := by
  have h1 := has_any g m.f m.rs num w h.brd hk.apart.ok hk.f (by rw [← hnum]; exact Nat.mod_lt _ M32_pos)
  have e : aheadS m.f num = x := by rw [← hnum]; exact aheadS_at m.f x hk.f hx
  rw [show (num + 4294967296 - m.f) % 4294967296 = x from e] at h1
  exact h1
theorem placeB_any (gb g d : Nat) (m : BufP) (x num : Nat) (w : World) (h : BufW w gb g d m) (hk : BOk m) (hx : m.n + x < M32) (hnum : (m.f + x) % M32 = num) : Calls Try.prog 26 #[.pointer (some ⟨gb, 0, none⟩), .int .u32 (num : Int)] w fun e w' => e = .returned (.pointer (some ⟨d, (m.beg + (m.n + x)) % m.R, none⟩)) ∧ Below w.heap.size w w' := by
  have h1 := place_any gb g d m num w h hk (by rw [← hnum]; exact Nat.mod_lt _ M32_pos)
  have e : offB m num = m.n + x := by rw [← hnum]; exact offB_at m x hk.f hx
  rw [e] at h1
  exact h1
/-- One block is added. -/
theorem addB_any (gb g d : Nat) (m : BufP) (a b st en : Nat) (nb : Nat) (w : World) (h : BufW w gb g d m) (hk : BOk m) (hab : a < b) (hb : b ≤ 65536) (hst : (m.f + a) % M32 = st) (hen : (m.f + b) % M32 = en) (hrow : w.heap[nb]? = some (.cells #[.int .u32 (st : Int), .int .u32 (en : Int)] 57 (0, 0))) (hnb : nb ≠ g) :
    Calls Try.prog 30 #[.pointer (some ⟨g, 0, none⟩), .int .u32 (en : Int), .slice (some ⟨nb, 0, none⟩) 1 1] w fun e w' => ∃ z : Int, e = .returned (.int .i64 z) ∧ BufW w' gb g d { m with rs := joinR m.rs (a, b) } ∧ Mod [g] w w' := by
  have hst' : st < 4294967296 := by rw [← hst]; exact Nat.mod_lt _ M32_pos
  have hen' : en < 4294967296 := by rw [← hen]; exact Nat.mod_lt _ M32_pos
  have h1 := add_real g m.f en m.rs [(st, en)] (some ⟨nb, 0, none⟩) 1 w h.brd hk.apart hk.f hen' (Row.one_blk hrow) (fun W' hm => (Row.one_blk hrow).mod hm (InB.some _ _) (by simpa using hnb)) (fun r hr => by simp at hr; subst hr; exact ⟨hst', hen'⟩)
  have e := joinOne m.f a b m.rs hk.f hab hb (Nat.lt_of_le_of_lt hb (by decide))
  rw [hst, hen] at e
  rw [e] at h1
  refine Calls.mono h1 ?_
  rintro e w' ⟨z, rfl, hbr, hm⟩
  exact ⟨z, rfl, h.board hbr hm, hm⟩
/-- The first run, as a block. -/
theorem head_own {w : World} {base n : Nat} {v : Value} {xs : List Value} (h : w.ownsRow base 57 2 v n xs) (h0 : 0 < n) : ∃ b c, v = .slice (some ⟨b, 0, none⟩) n c ∧ Row w 2 (some ⟨b, 0, none⟩) n c xs := by
  obtain ⟨A, c, e, hr⟩ := Row.of_own h
  rcases h.2 with ⟨rfl, _⟩ | ⟨g, cap, cur, rfl, _⟩
  · injection e with e1 e2 e3
    omega
  · injection e with e1 e2 e3
    subst e1 e3
    exact ⟨g, cap, rfl, hr⟩
theorem head_cells {w : World} {b c f : Nat} {rs : List (Nat × Nat)} (h : Row w 2 (some ⟨b, 0, none⟩) rs.length c (bcs (rs.map (blkOf f)))) (h0 : 0 < rs.length) :
    w.cell? ⟨b, 0, none⟩ = some (.int .u32 (((f + (headR rs).1) % M32 : Nat) : Int)) ∧ w.cell? ⟨b, 1, none⟩ = some (.int .u32 (((f + (headR rs).2) % M32 : Nat) : Int)) := by
  obtain ⟨h1, h2⟩ := h.blk 0 (by rw [List.length_map]; exact h0)
  have e : (rs.map (blkOf f)).getD 0 (0, 0) = blkOf f (headR rs) := by
    unfold headR
    simp [List.getD_eq_getElem?_getD, List.getElem?_eq_getElem h0]
  rw [e] at h1 h2
  exact ⟨h1, h2⟩
end Go.Proofs.Ytblkfpipmdfmkaa
