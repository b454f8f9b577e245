/- Numbers' texts and parts with a blank between, in plain words. -/
import Derived.Test.YtfliddlcbnaoiaaOctP
namespace Go.Proofs.Ytfliddlcbnaoiaa
set_option linter.unusedVariables false
set_option linter.unusedSimpArgs false

/-- A number's text. -/
def tenS (n : Nat) : List UInt8 := if h : n < 10 then [UInt8.ofNat (48 + n)] else tenS (n / 10) ++ [UInt8.ofNat (48 + n % 10)]
termination_by n
decreasing_by omega
theorem tenS_small (n : Nat) (h : n < 10) : tenS n = [UInt8.ofNat (48 + n)] := by rw [tenS, dif_pos h]
theorem tenS_big (n : Nat) (h : ¬ n < 10) : tenS n = tenS (n / 10) ++ [UInt8.ofNat (48 + n % 10)] := by rw [tenS, dif_neg h]
def valT (xs : List UInt8) : Nat := xs.foldl (fun a c => a * 10 + (c.toNat - 48)) 0
theorem valT_snoc (xs : List UInt8) (c : UInt8) : valT (xs ++ [c]) = valT xs * 10 + (c.toNat - 48) := by simp [valT]
theorem digit_val (k : Nat) (h : k < 10) : (UInt8.ofNat (48 + k)).toNat = 48 + k := by rw [UInt8.toNat_ofNat']; omega
theorem valT_ten : ∀ n : Nat, valT (tenS n) = n := by
  intro n
  induction n using Nat.strongRecOn with
  | ind n ih =>
    by_cases h : n < 10
    · rw [tenS_small n h]
      show 0 * 10 + ((UInt8.ofNat (48 + n)).toNat - 48) = n
      rw [digit_val n h]; omega
    · rw [tenS_big n h, valT_snoc, ih (n / 10) (by omega), digit_val _ (by omega)]
      omega
theorem tenS_inj {m n : Nat} (h : tenS m = tenS n) : m = n := by rw [← valT_ten m, h, valT_ten]
theorem tenS_digits : ∀ n : Nat, ∀ c ∈ tenS n, 48 ≤ c.toNat ∧ c.toNat ≤ 57 := by
  intro n
  induction n using Nat.strongRecOn with
  | ind n ih =>
    intro c hc
    by_cases h : n < 10
    · rw [tenS_small n h] at hc
      rw [List.mem_singleton] at hc
      subst hc
      rw [digit_val n h]; omega
    · rw [tenS_big n h, List.mem_append, List.mem_singleton] at hc
      rcases hc with hc | rfl
      · exact ih (n / 10) (by omega) c hc
      · rw [digit_val _ (by omega)]; omega
theorem tenS_ne (n : Nat) : tenS n ≠ [] := by
  by_cases h : n < 10
  · rw [tenS_small n h]; simp
  · rw [tenS_big n h]; simp
theorem tenS_len : ∀ (k n : Nat), n < 10 ^ (k + 1) → (tenS n).length ≤ k + 1 := by
  intro k
  induction k with
  | zero => intro n h; rw [tenS_small n (by omega)]; simp
  | succ k ih =>
    intro n h
    by_cases h10 : n < 10
    · rw [tenS_small n h10]; simp
    · rw [tenS_big n h10, List.length_append]
      have := ih (n / 10) (by rw [Nat.pow_succ] at h; omega)
      simp; omega
/-- Parts with a blank ahead of each but the first. -/
def joinS : List (List UInt8) → List UInt8
  | [] => []
  | [x] => x
  | x :: y :: r => x ++ 32 :: joinS (y :: r)
theorem split_blank : ∀ (x y r s : List UInt8), (32 : UInt8) ∉ x → (32 : UInt8) ∉ y → x ++ 32 :: r = y ++ 32 :: s → x = y ∧ r = s
  | [], [], r, s, _, _, h => by injection h with _ h; exact ⟨rfl, h⟩
  | [], b :: y, r, s, _, hy, h => by injection h with h _; subst h; simp at hy
  | a :: x, [], r, s, hx, _, h => by injection h with h _; subst h; simp at hx
  | a :: x, b :: y, r, s, hx, hy, h => by
    injection h with h1 h2
    subst h1
    have := split_blank x y r s (fun m => hx (List.mem_cons_of_mem _ m)) (fun m => hy (List.mem_cons_of_mem _ m)) h2
    exact ⟨by rw [this.1], this.2⟩
theorem no_blank (x : List UInt8) (h : (32 : UInt8) ∉ x) (y r : List UInt8) : x ≠ y ++ 32 :: r := by
  rintro rfl; exact h (by simp)
theorem joinS_inj : ∀ (xs ys : List (List UInt8)), (∀ x ∈ xs, x ≠ [] ∧ (32 : UInt8) ∉ x) → (∀ y ∈ ys, y ≠ [] ∧ (32 : UInt8) ∉ y) → joinS xs = joinS ys → xs = ys
  | [], [], _, _, _ => rfl
  | [], [y], _, hy, h => absurd h.symm (hy y (by simp)).1
  | [], y :: z :: r, _, hy, h => by simp [joinS] at h
  | [x], [], hx, _, h => absurd h (hx x (by simp)).1
  | x :: z :: r, [], hx, _, h => by simp [joinS] at h
  | [x], [y], _, _, h => by rw [show x = y from h]
  | [x], y :: z :: r, hx, _, h => absurd h (no_blank x (hx x (by simp)).2 _ _)
  | x :: z :: r, [y], _, hy, h => absurd h.symm (no_blank y (hy y (by simp)).2 _ _)
  | x :: z :: r, y :: z' :: r', hx, hy, h => by
    have := split_blank x y _ _ (hx x (by simp)).2 (hy y (by simp)).2 h
    have ih := joinS_inj (z :: r) (z' :: r') (fun a m => hx a (List.mem_cons_of_mem _ m)) (fun a m => hy a (List.mem_cons_of_mem _ m)) this.2
    rw [this.1, ih]
/-- A part more. -/
theorem joinS_snoc : ∀ (xs : List (List UInt8)) (y : List UInt8), joinS (xs ++ [y]) = if xs = [] then y else joinS xs ++ 32 :: y
  | [], y => rfl
  | [x], y => rfl
  | x :: z :: r, y => by
    have ih := joinS_snoc (z :: r) y
    rw [if_neg (by simp)] at ih ⊢
    show x ++ 32 :: joinS (z :: r ++ [y]) = (x ++ 32 :: joinS (z :: r)) ++ 32 :: y
    rw [ih]; simp
end Go.Proofs.Ytfliddlcbnaoiaa
