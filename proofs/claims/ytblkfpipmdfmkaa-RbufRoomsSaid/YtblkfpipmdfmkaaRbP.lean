/- Buffers in plain words: bytes round a ring, and what came out of order. -/
import Derived.Test.YtblkfpipmdfmkaaSackW
namespace Go.Proofs.Ytblkfpipmdfmkaa
set_option linter.unusedVariables false
set_option linter.unusedSimpArgs false
open Go.RowKit

def M32 : Nat := 4294967296
theorem M32_eq : M32 = 4294967296 := rfl
structure BufP where
  R : Nat
  beg : Nat
  n : Nat
  f : Nat
  last : Nat
  kept : Bool
  rs : List (Nat × Nat)
  xs : List UInt8
structure BOk (m : BufP) : Prop where
  r1 : 1 ≤ m.R
  r2 : m.R ≤ 8192
  beg : m.beg < m.R
  n : m.n ≤ m.R
  f : m.f < M32
  last : m.last < M32
  len : m.xs.length = m.R
  apart : Apart m.rs
  win : ∀ r ∈ m.rs, r.2 ≤ m.R - m.n
/-- How far a number is ahead of the next one: below 0 it came already. -/
def diffB (f s : Nat) : Int := if aheadS f s < 2147483648 then (aheadS f s : Int) else (aheadS f s : Int) - 4294967296
/-- How far the first byte that counts is ahead, and the bytes in the window. -/
def withinB (m : BufP) (s : Nat) (p : List UInt8) : Nat × List UInt8 :=
  if diffB m.f s < 0 then (0, (p.drop (min (-diffB m.f s).toNat p.length)).take (m.R - m.n))
  else ((diffB m.f s).toNat, p.take (m.R - m.n - (diffB m.f s).toNat))
/-- Bytes that did not come yet are laid at their places. -/
def layB (m : BufP) (a : Nat) : List UInt8 → List UInt8 → List UInt8
  | [], xs => xs
  | c :: q, xs => layB m (a + 1) q (if hasR m.rs a then xs else xs.set ((m.beg + (m.n + a)) % m.R) c)
theorem layB_len (m : BufP) : ∀ (q : List UInt8) (a : Nat) (xs : List UInt8), (layB m a q xs).length = xs.length
  | [], _, _ => rfl
  | c :: q, a, xs => by
    unfold layB
    rw [layB_len m q]
    split
    · rfl
    · rw [List.length_set]
def headR (rs : List (Nat × Nat)) : Nat × Nat := rs.getD 0 (0, 0)
/-- What comes behind the runs were joined. -/
def goB (m : BufP) (last : Nat) (rs : List (Nat × Nat)) (xs : List UInt8) : BufP × Nat :=
  if (headR rs).1 ≠ 0 then ({ m with last := last, kept := true, rs := rs, xs := xs }, 0)
  else ({ m with last := last, kept := true, rs := advR (headR rs).2 rs, xs := xs, n := m.n + (headR rs).2, f := (m.f + (headR rs).2) % M32 }, (headR rs).2)
/-- What an insert leaves, and what it answers. -/
def insB (m : BufP) (s : Nat) (p : List UInt8) : BufP × Nat :=
  if (withinB m s p).2 = [] then (m, 0)
  else goB m ((m.f + ((withinB m s p).1 + (withinB m s p).2.length - 1)) % M32) (joinR m.rs ((withinB m s p).1, (withinB m s p).1 + (withinB m s p).2.length)) (layB m (withinB m s p).1 (withinB m s p).2 m.xs)
theorem withinB_win (m : BufP) (s : Nat) (p : List UInt8) (h : (withinB m s p).2 ≠ []) : (withinB m s p).1 + (withinB m s p).2.length ≤ m.R - m.n ∧ 0 < (withinB m s p).2.length := by
  have h0 : 0 < (withinB m s p).2.length := List.length_pos_iff.2 h
  refine ⟨?_, h0⟩
  unfold withinB at h0 ⊢
  split at h0
  · rename_i hd
    rw [if_pos hd]
    simp only [List.length_take]
    omega
  · rename_i hd
    rw [if_neg hd]
    simp only [List.length_take] at h0 ⊢
    omega
theorem joinL_in : ∀ (xs : List (Nat × Nat)) (r : Nat × Nat) (W : Nat), (∀ z ∈ xs, z.2 ≤ W) → r.2 ≤ W → (joinL xs r).2.2 ≤ W
  | [], r, W, _, h => h
  | x :: xs, r, W, hx, h => by
    have h1 := hx x (by simp)
    have h2 : ∀ z ∈ xs, z.2 ≤ W := fun z hz => hx z (by simp [hz])
    unfold joinL
    split
    · exact joinL_in xs r W h2 h
    · exact joinL_in xs _ W h2 (by show max r.2 x.2 ≤ W; omega)
theorem joinR_in (xs : List (Nat × Nat)) (r : Nat × Nat) (W : Nat) (hx : ∀ z ∈ xs, z.2 ≤ W) (hr : r.2 ≤ W) : ∀ z ∈ joinR xs r, z.2 ≤ W := by
  intro z hz
  unfold joinR insR at hz
  rcases List.mem_append.1 hz with h1 | h1
  · exact hx _ (joinL_sub xs r z (List.takeWhile_subset _ h1))
  · rcases List.mem_cons.1 h1 with rfl | h1
    · exact joinL_in xs r W hx hr
    · exact hx _ (joinL_sub xs r z (List.dropWhile_subset _ h1))
theorem joinR_ne (xs : List (Nat × Nat)) (r : Nat × Nat) : 0 < (joinR xs r).length := by
  unfold joinR insR
  rw [List.length_append, List.length_cons]
  omega
theorem advR_in (d W : Nat) (rs : List (Nat × Nat)) (h : ∀ z ∈ rs, z.2 ≤ W) : ∀ z ∈ advR d rs, z.2 ≤ W - d := by
  intro z hz
  unfold advR at hz
  obtain ⟨x, hx, he⟩ := List.mem_filterMap.1 hz
  split at he
  · injection he with he
    subst he
    have := h x hx
    show x.2 - d ≤ W - d
    omega
  · cases he
theorem headR_mem {rs : List (Nat × Nat)} (h : 0 < rs.length) : headR rs ∈ rs := by
  unfold headR
  rw [List.getD_eq_getElem?_getD, List.getElem?_eq_getElem h]
  exact List.getElem_mem h
theorem M32_pos : 0 < M32 := by decide
theorem goB_ok (m : BufP) (last : Nat) (rs : List (Nat × Nat)) (xs : List UInt8) (h : BOk m) (hlast : last < M32) (hlen : xs.length = m.R) (hap : Apart rs) (hin : ∀ z ∈ rs, z.2 ≤ m.R - m.n) (hne : 0 < rs.length) :
    BOk (goB m last rs xs).1 ∧ (goB m last rs xs).1.n = m.n + (goB m last rs xs).2 ∧ (goB m last rs xs).1.f = (m.f + (goB m last rs xs).2) % M32 ∧ (goB m last rs xs).1.R = m.R := by
  have hh := hin _ (headR_mem hne)
  have hn := h.n
  have hf : m.f % M32 = m.f := Nat.mod_eq_of_lt h.f
  unfold goB
  split
  · exact ⟨⟨h.r1, h.r2, h.beg, h.n, h.f, hlast, hlen, hap, hin⟩, rfl, hf.symm, rfl⟩
  · have hm : (m.f + (headR rs).2) % M32 < M32 := Nat.mod_lt _ M32_pos
    have hadv := advR_in (headR rs).2 (m.R - m.n) rs hin
    generalize (headR rs).2 = y at *
    refine ⟨⟨h.r1, h.r2, h.beg, ?_, hm, hlast, hlen, advR_apart _ _ hap, ?_⟩, rfl, rfl, rfl⟩
    · show m.n + y ≤ m.R
      omega
    · intro z hz
      have := hadv z hz
      show z.2 ≤ m.R - (m.n + y)
      omega
theorem joinB (m : BufP) (a b : Nat) (h : Apart m.rs) (hab : a < b) (hb : b ≤ 65536) : Apart (joinR m.rs (a, b)) := joinR_apart m.rs (a, b) h hab hb
theorem winB_le (m : BufP) (b : Nat) (h : BOk m) (hb : b ≤ m.R - m.n) : b ≤ 65536 := Nat.le_trans hb (Nat.le_trans (Nat.sub_le _ _) (Nat.le_trans h.r2 (by decide)))
theorem laidB_ok (m : BufP) (a b la : Nat) (ys : List UInt8) (h : BOk m) (hw : b ≤ m.R - m.n) (hab : a < b) (hla : la < M32) (hy : ys.length = m.R) :
    BOk (goB m la (joinR m.rs (a, b)) ys).1 ∧ (goB m la (joinR m.rs (a, b)) ys).1.n = m.n + (goB m la (joinR m.rs (a, b)) ys).2 ∧ (goB m la (joinR m.rs (a, b)) ys).1.f = (m.f + (goB m la (joinR m.rs (a, b)) ys).2) % M32 ∧ (goB m la (joinR m.rs (a, b)) ys).1.R = m.R :=
  goB_ok m la _ ys h hla hy (joinB m a b h.apart hab (winB_le m b h hw)) (joinR_in m.rs (a, b) (m.R - m.n) h.win hw) (joinR_ne _ _)
/-- An insert keeps a buffer well formed; what it answers is how far the next number went on. -/
theorem insB_ok (m : BufP) (s : Nat) (p : List UInt8) (h : BOk m) : BOk (insB m s p).1 ∧ (insB m s p).1.n = m.n + (insB m s p).2 ∧ (insB m s p).1.f = (m.f + (insB m s p).2) % M32 ∧ (insB m s p).1.R = m.R := by
  unfold insB
  by_cases hq : (withinB m s p).2 = []
  · rw [if_pos hq]
    have hf : m.f % M32 = m.f := Nat.mod_eq_of_lt h.f
    show BOk m ∧ m.n = m.n + 0 ∧ m.f = (m.f + 0) % M32 ∧ m.R = m.R
    rw [Nat.add_zero, Nat.add_zero, hf]
    exact ⟨h, rfl, rfl, rfl⟩
  · rw [if_neg hq]
    obtain ⟨hw, h0⟩ := withinB_win m s p hq
    exact laidB_ok m _ _ _ _ h hw (Nat.lt_add_of_pos_right h0) (Nat.mod_lt _ M32_pos) (by rw [layB_len]; exact h.len)
/-- What a read leaves, and gives. -/
def cntB (m : BufP) (N : Int) : Nat := min (max N 0).toNat m.n
def getB (m : BufP) (k : Nat) : List UInt8 := (List.range k).map fun i => m.xs.getD ((m.beg + i) % m.R) 0
def readB (m : BufP) (N : Int) : BufP := { m with n := m.n - cntB m N, beg := (m.beg + cntB m N) % m.R }
theorem readB_ok (m : BufP) (N : Int) (h : BOk m) : BOk (readB m N) := by
  have h1 := h.r1
  have hn := h.n
  refine ⟨h.r1, h.r2, Nat.mod_lt _ (by omega), ?_, h.f, h.last, h.len, h.apart, ?_⟩
  · show m.n - cntB m N ≤ m.R
    omega
  · intro z hz
    have := h.win z hz
    show z.2 ≤ m.R - (m.n - cntB m N)
    omega
def newB (R f : Nat) : BufP := ⟨R, 0, 0, f, 0, false, [], List.replicate R 0⟩
theorem newB_ok (R f : Nat) (h1 : 1 ≤ R) (h2 : R ≤ 8192) (hf : f < M32) : BOk (newB R f) :=
  ⟨h1, h2, by show 0 < R; omega, Nat.zero_le _, hf, M32_pos, List.length_replicate, trivial, fun r hr => by cases hr⟩
end Go.Proofs.Ytblkfpipmdfmkaa
