/- Walk: where a number's byte stands. -/
import Derived.Test.YtblkfpipmdfmkaaRbA
namespace Go.Proofs.Ytblkfpipmdfmkaa
set_option linter.unusedVariables false
set_option linter.unusedSimpArgs false
open Go.RowKit

/-- How far a number is behind the first byte that was not read. -/
def offB (m : BufP) (num : Nat) : Nat := (num + M32 - (m.f + M32 - m.n) % M32) % M32
theorem bufnext_b (gb g d : Nat) (m : BufP) (w : World) (h : BufW w gb g d m) : Calls Try.prog 13 #[.pointer (some ⟨gb, 0, none⟩)] w fun e w' => e = .returned (.int .u32 (m.f : Int)) ∧ Below w.heap.size w w' :=
  (bufnext_any gb g d m w h).mono fun e w' h => ⟨h.1, h.2 ▸ Below.refl _ _⟩
set_option maxRecDepth 20000 in
set_option maxHeartbeats 2000000 in
theorem place_any (gb g d : Nat) (m : BufP) (num : Nat) (w : World) (h : BufW w gb g d m) (hk : BOk m) (hn : num < 4294967296) :
    Calls Try.prog 26 #[.pointer (some ⟨gb, 0, none⟩), .int .u32 (num : Int)] w fun e w' => e = .returned (.pointer (some ⟨d, (m.beg + offB m num) % m.R, none⟩)) ∧ Below w.heap.size w w' := by
  have HN := hid (fun W (hb : Below w.heap.size w W) => bufnext_b gb g d m W (h.below hb))
  have HC := hid (fun W (hb : Below w.heap.size w W) => (h.below hb).cells)
  have h1 := hk.r1
  have h2 := hk.r2
  have h3 := hk.n
  have h4 := hk.beg
  have h5 : m.f < 4294967296 := hk.f
  obtain ⟨x, hx⟩ : ∃ x, (m.f + M32 - m.n) % M32 = x := ⟨_, rfl⟩
  obtain ⟨y, hy⟩ : ∃ y, offB m num = y := ⟨_, rfl⟩
  have hx' : (m.f + 4294967296 - m.n) % 4294967296 = x := hx
  have hy' : (num + 4294967296 - x) % 4294967296 = y := by rw [← hx]; exact hy
  have hxl : x < 4294967296 := by rw [← hx']; exact Nat.mod_lt _ (by decide)
  have hyl : y < 4294967296 := by rw [← hy']; exact Nat.mod_lt _ (by decide)
  have w1 : IntKind.u32.wrap (m.n : Int) = (m.n : Int) := by rw [IntKind.wrap_u32]; omega
  have w2 : IntKind.u32.wrap ((m.f : Int) - (m.n : Int)) = (x : Int) := by rw [IntKind.wrap_u32]; omega
  have w3 : IntKind.u32.wrap ((num : Int) - (x : Int)) = (y : Int) := by rw [IntKind.wrap_u32]; omega
  have w4 : IntKind.i64.wrap (y : Int) = (y : Int) := by rw [IntKind.wrap_i64]; omega
  have w5 : IntKind.i64.wrap ((m.beg : Int) + (y : Int)) = (m.beg : Int) + (y : Int) := by rw [IntKind.wrap_i64]; omega
  obtain ⟨z, hz⟩ : ∃ z, (m.beg + y) % m.R = z := ⟨_, rfl⟩
  have hzl : z < m.R := by rw [← hz]; exact Nat.mod_lt _ (by omega)
  have w6 : Int.tmod ((m.beg + y : Nat) : Int) (m.R : Int) = (z : Int) := by rw [Int.tmod_eq_emod_of_nonneg (by omega), ← hz]; omega
  have w6' : Int.tmod ((m.beg : Int) + (y : Int)) (m.R : Int) = (z : Int) := by rw [← w6]; rfl
  have w7 : ((m.R : Int) == 0) = false := by rw [beq_eq_false_iff_ne]; omega
  have w8 : (0 : Int) ≤ (z : Int) := by omega
  have w9 : (z : Int) < (m.R : Int) := by omega
  rw [hy, hz]
  clear hx hy hx' hy' hz hk h
  go_enter Try.func26, Try.ntmps26
  go_upto_region 1 with fail
  refine wp_region_later w.heap.size (Nat.le_refl _) (by kernel_rfl) (by kernel_rfl) ?_
  have q3 := fun x : Later w.heap.size w => (HC.out _ x.ok).2.2.2.1
  repeat (first
    | go_big_quiet_step (first
      | (go_at_call 13; with_reducible exact quiet_later _ (Nat.le_refl _) (HN.out _ (Later.ok _)))))
  refine wpQuiet_nil ?_
  rintro _ ⟨lx, rfl⟩
  clear q3
  have HB1 := hid lx.ok
  generalize lx.wd = W1 at HB1 ⊢
  go_upto_region 2 with fail
  refine wp_region_later W1.heap.size (Nat.le_refl _) (by kernel_rfl) (by kernel_rfl) ?_
  have DB := fun x : Later W1.heap.size W1 => HB1.out.trans (x.ok.mono HB1.out.size)
  have q1 := fun x : Later W1.heap.size W1 => (HC.out _ (DB x)).2.1
  have q2 := fun x : Later W1.heap.size W1 => (HC.out _ (DB x)).2.2.1
  repeat (go_big_quiet_step (first | fail))
  refine wpQuiet_nil ?_
  rintro _ ⟨lx, rfl⟩
  have HB2 := hid (DB lx)
  clear q1 q2 DB
  go_wp2_with fail
  go_ret
  exact ⟨rfl, HB2.out⟩
end Go.Proofs.Ytblkfpipmdfmkaa
