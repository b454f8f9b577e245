/- The plain arithmetic of 16-bit ones' complement sums: no program in sight. -/
import Derived.WalkKit
namespace Go.Proofs.Ythnidgiogjehkaa
set_option linter.unusedVariables false
set_option linter.unusedSimpArgs false

/-- What folding comes to: 0 stays 0, all else is brought into 1 .. 65535 modulo 65535. -/
def foldS (n : Int) : Int := if n = 0 then 0 else (n - 1) % 65535 + 1

theorem foldS_small {n : Int} (h0 : 0 ≤ n) (h : n ≤ 65535) : foldS n = n := by unfold foldS; split <;> omega
theorem foldS_step {n : Int} (h : 65535 < n) : foldS (n % 65536 + n / 65536) = foldS n := by
  unfold foldS
  rw [if_neg (by omega), if_neg (by omega)]
  have : n % 65536 + n / 65536 - 1 = n - 1 - 65535 * (n / 65536) := by omega
  omega
theorem foldS_range (n : Int) : 0 ≤ foldS n ∧ foldS n ≤ 65535 := by unfold foldS; split <;> omega
theorem foldS_add {a b : Int} (ha : 0 ≤ a) (hb : 0 ≤ b) : foldS (foldS a + b) = foldS (a + b) := by
  unfold foldS; split <;> split <;> (try split) <;> omega
theorem foldS_over {a b : Int} (ha : 0 ≤ a) (ha' : a ≤ 65535) (hb : 0 ≤ b) (hb' : b ≤ 65535) (h : 65535 < a + b) : foldS (a + b) = a + b - 65535 := by
  unfold foldS; rw [if_neg (by omega)]; omega

theorem and_low16 (n : Int) (h0 : 0 ≤ n) (h1 : n < 18446744073709551616) : bits .and .u64 n 65535 = n % 65536 := by
  rw [u64_and n 65535 h0 h1 (by omega) (by omega)]
  have : (n.toNat &&& (65535 : Int).toNat) = n.toNat % 65536 := nat_mask16 _
  rw [this]; omega

/-- The numbers of 16 bits that bytes are, summed up. -/
def wsum : List UInt8 → Int
  | [] => 0
  | [a] => a.toNat * 256
  | a :: b :: r => a.toNat * 256 + b.toNat + wsum r
theorem wsum_range : ∀ xs : List UInt8, 0 ≤ wsum xs ∧ wsum xs ≤ xs.length * 65535
  | [] => by simp [wsum]
  | [a] => by have := a.toNat_lt; simp [wsum]; omega
  | a :: b :: r => by
    have := a.toNat_lt; have := b.toNat_lt; have := wsum_range r
    simp only [wsum, List.length_cons]; omega
theorem wsum_drop2 (xs : List UInt8) (h : 1 < xs.length) : wsum xs = ((xs.getD 0 0).toNat * 256 + (xs.getD 1 0).toNat : Int) + wsum (xs.drop 2) := by
  match xs, h with
  | a :: b :: r, _ => simp [wsum]
theorem wsum_one (xs : List UInt8) (h : xs.length = 1) : wsum xs = ((xs.getD 0 0).toNat * 256 : Int) := by
  match xs, h with
  | [a], _ => simp [wsum]
theorem wsum_at (xs : List UInt8) (k : Nat) (h : k + 1 < xs.length) : wsum (xs.drop k) = ((xs.getD k 0).toNat * 256 + (xs.getD (k + 1) 0).toNat : Int) + wsum (xs.drop (k + 2)) := by
  rw [wsum_drop2 _ (by rw [List.length_drop]; omega), List.drop_drop]
  simp [List.getD_eq_getElem?_getD, List.getElem?_drop]
theorem wsum_last (xs : List UInt8) (k : Nat) (h : k + 1 = xs.length) : wsum (xs.drop k) = ((xs.getD k 0).toNat * 256 : Int) := by
  rw [wsum_one _ (by rw [List.length_drop]; omega)]
  simp [List.getD_eq_getElem?_getD, List.getElem?_drop]
theorem foldS_keep {q x y : Int} (hq : 0 ≤ q) (hx : 0 ≤ x) (hy : 0 ≤ y) : foldS (foldS (q + x) + y) = foldS (q + (x + y)) := by
  rw [foldS_add (by omega) hy, Int.add_assoc]
theorem wsum_append : ∀ (xs ys : List UInt8), xs.length % 2 = 0 → wsum (xs ++ ys) = wsum xs + wsum ys
  | [], ys, _ => by simp [wsum]
  | [a], ys, h => by simp at h
  | a :: b :: r, ys, h => by
    have := wsum_append r ys (by simp at h; omega)
    simp only [List.cons_append, wsum, this]; omega
def wtot (pp : List (List UInt8)) : Int := (pp.map wsum).foldr (· + ·) 0
def btot (pp : List (List UInt8)) : Nat := (pp.map List.length).foldr (· + ·) 0
theorem wtot_nil : wtot [] = 0 := rfl
theorem wtot_cons (x : List UInt8) (pp : List (List UInt8)) : wtot (x :: pp) = wsum x + wtot pp := rfl
theorem btot_cons (x : List UInt8) (pp : List (List UInt8)) : btot (x :: pp) = x.length + btot pp := rfl
theorem wtot_range : ∀ pp : List (List UInt8), 0 ≤ wtot pp ∧ wtot pp ≤ btot pp * 65535
  | [] => by simp [wtot, btot]
  | x :: pp => by
    have := wsum_range x; have := wtot_range pp
    rw [wtot_cons, btot_cons]; omega
theorem wtot_drop (pp : List (List UInt8)) (k : Nat) (h : k < pp.length) : wtot (pp.drop k) = wsum (pp.getD k []) + wtot (pp.drop (k + 1)) := by
  rw [List.drop_eq_getElem_cons h, wtot_cons]
  simp [List.getD_eq_getElem?_getD, List.getElem?_eq_getElem h]
theorem btot_drop (pp : List (List UInt8)) (k : Nat) (h : k < pp.length) : btot (pp.drop k) = (pp.getD k []).length + btot (pp.drop (k + 1)) := by
  rw [List.drop_eq_getElem_cons h, btot_cons]
  simp [List.getD_eq_getElem?_getD, List.getElem?_eq_getElem h]
theorem btot_take : ∀ (pp : List (List UInt8)) (k : Nat), btot (pp.drop k) ≤ btot pp
  | [], k => by simp
  | x :: pp, 0 => by simp
  | x :: pp, k + 1 => by have := btot_take pp k; rw [List.drop_succ_cons, btot_cons]; omega
theorem btot_take_succ (pp : List (List UInt8)) (k : Nat) (h : k < pp.length) : btot (pp.take (k + 1)) = btot (pp.take k) + (pp.getD k []).length := by
  induction pp generalizing k with
  | nil => simp at h
  | cons x pp ih =>
    cases k with
    | zero => simp [btot]
    | succ k =>
      have := ih k (by simpa using h)
      rw [List.take_succ_cons, List.take_succ_cons, btot_cons, btot_cons, this]
      simp; omega

theorem or_low8 (a b : Int) (ha : 0 ≤ a) (ha' : a < 256) (hb : 0 ≤ b) (hb' : b < 256) : bits .or .u64 (a * 256) b = a * 256 + b := by
  obtain ⟨x, rfl⟩ := Int.eq_ofNat_of_zero_le ha
  obtain ⟨y, rfl⟩ := Int.eq_ofNat_of_zero_le hb
  have := nat_join 8 (x * 256) y (by omega) (by omega)
  rw [show ((x : Int) * 256) = ((x * 256 : Nat) : Int) by omega, u64_or_nat (x * 256) y (by omega) (by omega), this]
  omega
theorem word_val (q : Int) (x y : UInt8) (h0 : 0 ≤ q) (h1 : q ≤ 9223372036854775807) :
    IntKind.u64.wrap (q + bits .or .u64 (IntKind.u64.wrap (IntKind.u64.wrap (x.toNat : Int) * 256)) (IntKind.u64.wrap (y.toNat : Int))) = q + ((x.toNat : Int) * 256 + y.toNat) := by
  have := x.toNat_lt; have := y.toNat_lt
  rw [IntWalk.u64_in (x.toNat : Int) (by omega), IntWalk.u64_in (y.toNat : Int) (by omega), IntWalk.u64_in ((x.toNat : Int) * 256) (by omega), or_low8 _ _ (by omega) (by omega) (by omega) (by omega), IntWalk.u64_in _ (by omega)]
theorem word16_val (x y : UInt8) : bits .or .u16 ((x.toNat : Int) * 256) (y.toNat : Int) = (x.toNat : Int) * 256 + y.toNat := by
  have := x.toNat_lt; have := y.toNat_lt
  have h := nat_join 8 (x.toNat * 256) y.toNat (by omega) (by omega)
  rw [show ((x.toNat : Int) * 256) = ((x.toNat * 256 : Nat) : Int) by omega, u16_or_nat (x.toNat * 256) y.toNat (by omega) (by omega), h]
  omega
/-- A word laid into bytes, at an even place. -/
theorem wsum_set : ∀ (xs : List UInt8) (j : Nat) (x y : UInt8), 2 * j + 1 < xs.length →
    wsum ((xs.set (2 * j) x).set (2 * j + 1) y) = wsum xs - ((xs.getD (2 * j) 0).toNat * 256 + (xs.getD (2 * j + 1) 0).toNat) + (x.toNat * 256 + y.toNat)
  | [], _, _, _, h => by simp at h
  | [_], _, _, _, h => by simp at h
  | a :: b :: r, 0, x, y, h => by simp [wsum]; omega
  | a :: b :: r, j + 1, x, y, h => by
    have ih := wsum_set r j x y (by simp at h; omega)
    rw [show 2 * (j + 1) = 2 * j + 1 + 1 from by omega]
    simp only [List.set_cons_succ, List.getD_cons_succ, wsum]
    omega
theorem wsum_set' (xs : List UInt8) (j : Nat) (x y : UInt8) (h : j * 2 + 1 < xs.length) :
    wsum ((xs.set (j * 2) x).set (j * 2 + 1) y) = wsum xs - ((xs.getD (j * 2) 0).toNat * 256 + (xs.getD (j * 2 + 1) 0).toNat) + (x.toNat * 256 + y.toNat) := by
  have := wsum_set xs j x y (by omega)
  rwa [show 2 * j = j * 2 from by omega] at this
/-- Reckoned on, or reckoned anew: but that 0 and 65535 are one. -/
theorem anew (T was is : Int) (hT : was ≤ T) (w0 : 0 ≤ was) (w1 : was ≤ 65535) (i0 : 0 ≤ is) (i1 : is ≤ 65535) :
    foldS (foldS T + (65535 - was) + is) = foldS (T - was + is) ∨ (foldS (foldS T + (65535 - was) + is) = 65535 ∧ foldS (T - was + is) = 0) := by
  have h := foldS_add (a := T) (b := 65535 - was + is) (by omega) (by omega)
  rw [← Int.add_assoc] at h
  rw [h]
  unfold foldS
  split <;> split <;> omega
/-- The two bytes of a number of 16 bits. -/
def hi8 (n : Int) : UInt8 := UInt8.ofNat (n / 256).toNat
def lo8 (n : Int) : UInt8 := UInt8.ofNat (n % 256).toNat
theorem hi8_val (n : Int) (h0 : 0 ≤ n) (h1 : n ≤ 65535) : ((hi8 n).toNat : Int) = n / 256 := by
  unfold hi8; rw [UInt8.toNat_ofNat']; omega
theorem lo8_val (n : Int) : ((lo8 n).toNat : Int) = n % 256 := by
  unfold lo8; rw [UInt8.toNat_ofNat']; omega
theorem hilo (n : Int) (h0 : 0 ≤ n) (h1 : n ≤ 65535) : ((hi8 n).toNat * 256 + (lo8 n).toNat : Int) = n := by
  rw [hi8_val n h0 h1, lo8_val]; omega
/-- One byte turned: the sum goes by the difference, times 256 at an even place. -/
theorem wsum_set1 : ∀ (xs : List UInt8) (i : Nat) (y : UInt8), i < xs.length → wsum (xs.set i y) = wsum xs + ((y.toNat : Int) - (xs.getD i 0).toNat) * (if i % 2 = 0 then 256 else 1)
  | [], _, _, h => by simp at h
  | [a], 0, y, h => by simp [wsum]; omega
  | [a], i + 1, y, h => by simp at h
  | a :: b :: r, 0, y, h => by simp [wsum]; omega
  | a :: b :: r, 1, y, h => by simp [wsum]; omega
  | a :: b :: r, i + 2, y, h => by
    have ih := wsum_set1 r i y (by simp at h; omega)
    rw [show (i + 2) % 2 = i % 2 by omega]
    simp only [List.set_cons_succ, List.getD_cons_succ, wsum, ih]
    omega
theorem xor_bit (x : UInt8) (j : Nat) (hj : j < 8) : ((x.toNat ^^^ 2 ^ j : Nat) : Int) = x.toNat + 2 ^ j ∨ ((x.toNat ^^^ 2 ^ j : Nat) : Int) = x.toNat - 2 ^ j := by
  have h : ∀ x : Fin 256, ∀ j : Fin 8, (x.val ^^^ 2 ^ j.val) = x.val + 2 ^ j.val ∨ (x.val ^^^ 2 ^ j.val) + 2 ^ j.val = x.val := by decide +kernel
  rcases h ⟨x.toNat, x.toNat_lt⟩ ⟨j, hj⟩ with h | h
  · left; simp only at h; rw [h]; simp
  · right
    simp only at h
    have h2 : ((x.toNat ^^^ 2 ^ j : Nat) : Int) + ((2 ^ j : Nat) : Int) = (x.toNat : Int) := by rw [← Int.natCast_add, h]
    have h3 : ((2 ^ j : Nat) : Int) = (2 : Int) ^ j := by simp
    omega
theorem xor_lt (x : UInt8) (j : Nat) (hj : j < 8) : x.toNat ^^^ 2 ^ j < 256 := by
  have h : ∀ x : Fin 256, ∀ j : Fin 8, (x.val ^^^ 2 ^ j.val) < 256 := by decide +kernel
  exact h ⟨x.toNat, x.toNat_lt⟩ ⟨j, hj⟩
/-- What is laid into its load makes it good. -/
theorem foldS_laid (T : Int) (h : 0 ≤ T) : foldS (T + (65535 - foldS T)) = 65535 := by
  unfold foldS; split <;> split <;> omega
theorem pow_cases (j : Nat) (hj : j < 8) : (2 : Int) ^ j = 1 ∨ (2 : Int) ^ j = 2 ∨ (2 : Int) ^ j = 4 ∨ (2 : Int) ^ j = 8 ∨ (2 : Int) ^ j = 16 ∨ (2 : Int) ^ j = 32 ∨ (2 : Int) ^ j = 64 ∨ (2 : Int) ^ j = 128 := by
  match j, hj with
  | 0, _ | 1, _ | 2, _ | 3, _ | 4, _ | 5, _ | 6, _ | 7, _ => decide
/-- With one bit turned it is good no more. -/
theorem foldS_turned (S d : Int) (j : Nat) (hj : j < 8) (h : foldS S = 65535) (h0 : 0 ≤ S) (m : Int) (hm : m = 256 ∨ m = 1) (hd : d = 2 ^ j ∨ d = -2 ^ j) (hS : 0 ≤ S + d * m) : foldS (S + d * m) ≠ 65535 := by
  unfold foldS at h ⊢
  have hp := pow_cases j hj
  rcases hm with rfl | rfl <;> rcases hd with rfl | rfl <;> rcases hp with hp | hp | hp | hp | hp | hp | hp | hp <;> rw [hp] at hS ⊢ <;> (split at h <;> split <;> omega)
end Go.Proofs.Ythnidgiogjehkaa
