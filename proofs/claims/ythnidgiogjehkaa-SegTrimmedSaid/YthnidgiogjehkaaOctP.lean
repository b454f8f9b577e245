/- Numbers as bytes: plain arithmetic. -/
import Derived.Test.YthnidgiogjehkaaMem
namespace Go.Proofs.Ythnidgiogjehkaa
set_option linter.unusedVariables false
set_option linter.unusedSimpArgs false
open Go.RowKit

/-- The number of bytes, the greatest first. -/
def be (xs : List UInt8) : Nat := xs.foldl (fun n c => n * 256 + c.toNat) 0
theorem be_snoc (xs : List UInt8) (c : UInt8) : be (xs ++ [c]) = be xs * 256 + c.toNat := by simp [be]
theorem be_from (xs : List UInt8) : ∀ n : Nat, xs.foldl (fun n c => n * 256 + c.toNat) n < (n + 1) * 256 ^ xs.length := by
  induction xs with
  | nil => intro n; simp
  | cons c xs ih =>
    intro n
    have := c.toNat_lt
    have h := ih (n * 256 + c.toNat)
    have h2 : n * 256 + c.toNat + 1 ≤ (n + 1) * 256 := by omega
    have h3 := Nat.mul_le_mul_right (256 ^ xs.length) h2
    rw [List.foldl_cons, List.length_cons, Nat.pow_succ, Nat.mul_comm (256 ^ xs.length) 256, ← Nat.mul_assoc]
    omega
theorem be_lt (xs : List UInt8) : be xs < 256 ^ xs.length := by
  have := be_from xs 0
  simpa [be] using this
theorem be_take_succ (xs : List UInt8) (k : Nat) (h : k < xs.length) : be (xs.take (k + 1)) = be (xs.take k) * 256 + (xs.getD k 0).toNat := by
  rw [List.take_succ_eq_append_getElem h, be_snoc]
  simp [List.getD_eq_getElem?_getD, List.getElem?_eq_getElem h]
theorem be_small (xs : List UInt8) (h : xs.length ≤ 8) : be xs < 18446744073709551616 := by
  have h1 := be_lt xs
  have h2 : 256 ^ xs.length ≤ 256 ^ 8 := Nat.pow_le_pow_right (by omega) h
  omega
theorem be_small7 (xs : List UInt8) (h : xs.length ≤ 7) : be xs < 72057594037927936 := by
  have h1 := be_lt xs
  have h2 : 256 ^ xs.length ≤ 256 ^ 7 := Nat.pow_le_pow_right (by omega) h
  omega
/-- The number of the last eight bytes at most. -/
def getS (xs : List UInt8) : Nat := be (xs.drop (xs.length - 8))
theorem getS_lt (xs : List UInt8) : getS xs < 18446744073709551616 := be_small _ (by rw [List.length_drop]; omega)
theorem getS_short (xs : List UInt8) (h : xs.length ≤ 8) : getS xs = be xs := by
  unfold getS; rw [show xs.length - 8 = 0 by omega, List.drop_zero]
theorem or_u64_low8 (n : Nat) (c : UInt8) (h : n < 72057594037927936) : bits .or .u64 ((n : Int) * 256) (c.toNat : Int) = ((n * 256 + c.toNat : Nat) : Int) := by
  have := c.toNat_lt
  have h1 := nat_join 8 (n * 256) c.toNat (by omega) (by omega)
  rw [show ((n : Int) * 256) = ((n * 256 : Nat) : Int) by omega, u64_or_nat (n * 256) c.toNat (by omega) (by omega), h1]

/-- A number's lowest k bytes, the greatest first. -/
def beB : Nat → Nat → List UInt8
  | 0, _ => []
  | k + 1, n => UInt8.ofNat (n / 256 ^ k) :: beB k n
theorem beB_length (k n : Nat) : (beB k n).length = k := by induction k with | zero => rfl | succ k ih => simp [beB, ih]
/-- Numbers' bytes, one behind the other. -/
def beL (k : Nat) (ns : List UInt64) : List UInt8 := ns.flatMap fun n => beB k n.toNat
theorem beL_nil (k : Nat) : beL k [] = [] := rfl
theorem beL_length (k : Nat) (ns : List UInt64) : (beL k ns).length = k * ns.length := by
  induction ns with
  | nil => simp [beL]
  | cons n ns ih => simp only [beL, List.flatMap_cons, List.length_append, beB_length, List.length_cons] at *; rw [ih, Nat.mul_succ]; omega
theorem beL_take_succ (k : Nat) (ns : List UInt64) (i : Nat) (h : i < ns.length) : beL k (ns.take (i + 1)) = beL k (ns.take i) ++ beB k (ns.getD i 0).toNat := by
  rw [List.take_succ_eq_append_getElem h]
  unfold beL
  rw [List.flatMap_append]
  simp only [List.flatMap_cons, List.flatMap_nil, List.append_nil, List.getD_eq_getElem?_getD, List.getElem?_eq_getElem h, Option.getD_some]
theorem beL_take_le (k : Nat) (ns : List UInt64) (i : Nat) : (beL k (ns.take i)).length ≤ k * ns.length := by
  rw [beL_length, List.length_take]; exact Nat.mul_le_mul_left _ (Nat.min_le_right _ _)
theorem byte_at (x q : Nat) : (x : Int) / 2 ^ (8 * q) % 256 = ((UInt8.ofNat (x / 256 ^ q)).toNat : Int) := by
  have h : ((2 : Int) ^ (8 * q)) = ((256 ^ q : Nat) : Int) := by
    rw [Int.pow_mul, Int.natCast_pow]; rfl
  rw [h, ← Int.natCast_ediv, UInt8.toNat_ofNat']
  omega
/-- How many bytes a size stands for. -/
def clampN (size : Int) : Nat := if size < 0 then 0 else if 8 < size then 8 else size.toNat
theorem clampN_le (size : Int) : clampN size ≤ 8 := by unfold clampN; split <;> (try split) <;> omega
/-- A number of 64 bits as a value. -/
def v64 (x : UInt64) : Value := .int .u64 (x.toNat : Int)
def by64 (xs : List UInt64) : List Value := xs.map v64
theorem by64_get (xs : List UInt64) (k : Nat) (h : k < xs.length) : (by64 xs)[k]? = some (.int .u64 ((xs.getD k 0).toNat : Int)) := by
  simp [by64, v64, List.getElem?_map, List.getElem?_eq_getElem h, List.getD_eq_getElem?_getD]
def RN (w : World) (v : Value) (ns : List UInt64) : Prop := ∃ A c, v = .slice A ns.length c ∧ Row w 1 A ns.length c (by64 ns)
theorem RN.below {w w' : World} {v : Value} {ns : List UInt64} (h : RN w v ns) (hb : Below w.heap.size w w') : RN w' v ns := by
  obtain ⟨A, c, e, hr⟩ := h; exact ⟨A, c, e, hr.below hb⟩
theorem RN.nil (w : World) : RN w (.slice none 0 0) [] := ⟨none, 0, rfl, Row.nil w 1⟩
theorem RN.new (w : World) (b : Nat) (ns : List UInt64) (cs : Array Value) (T : TypeId) (n : Nat) (hb : b = w.heap.size) (hn : n = ns.length) (hn' : n ≤ 9223372036854775807) (hc : cs = (by64 ns).toArray) :
    RN (w.alloc (.cells cs T)) (.slice (some ⟨b, 0, none⟩) n n) ns := by
  subst hn hb
  refine ⟨_, _, rfl, Row.new w cs T 1 ns.length (by64 ns) (by simp [by64]) hn' (fun k v hv => ?_)⟩
  rw [hc]; simpa using hv

theorem be_cons_from (xs : List UInt8) : ∀ n : Nat, xs.foldl (fun n c => n * 256 + c.toNat) n = n * 256 ^ xs.length + be xs := by
  induction xs with
  | nil => intro n; simp [be]
  | cons c xs ih =>
    intro n
    have h0 := ih c.toNat
    have h1 := ih (n * 256 + c.toNat)
    simp only [be, List.foldl_cons, Nat.zero_mul, Nat.zero_add] at *
    rw [h1, h0, List.length_cons, Nat.pow_succ, Nat.add_mul, Nat.mul_assoc, Nat.mul_comm 256]
    omega
theorem be_cons (c : UInt8) (xs : List UInt8) : be (c :: xs) = c.toNat * 256 ^ xs.length + be xs := by
  have := be_cons_from xs c.toNat
  unfold be at *
  rw [List.foldl_cons, Nat.zero_mul, Nat.zero_add]; exact this
theorem be_beB (k n : Nat) : be (beB k n) = n % 256 ^ k := by
  induction k with
  | zero => simp [beB, be, Nat.mod_one]
  | succ k ih =>
    rw [beB, be_cons, beB_length, ih, UInt8.toNat_ofNat']
    have h := Nat.mod_mul (a := 256 ^ k) (b := 256) (x := n)
    show n / 256 ^ k % 256 * 256 ^ k + n % 256 ^ k = n % (256 ^ k * 256)
    rw [h, Nat.mul_comm, Nat.add_comm]
theorem getS_beB (k n : Nat) (hk : k ≤ 8) : getS (beB k n) = n % 256 ^ k := by
  rw [getS_short _ (by rw [beB_length]; exact hk), be_beB]
theorem beL_cons (k : Nat) (n : UInt64) (ns : List UInt64) : beL k (n :: ns) = beB k n.toNat ++ beL k ns := rfl
theorem beL_drop (k : Nat) (ns : List UInt64) (i : Nat) (h : i < ns.length) : beL k (ns.drop i) = beB k (ns.getD i 0).toNat ++ beL k (ns.drop (i + 1)) := by
  rw [List.drop_eq_getElem_cons h, beL_cons]
  simp [List.getD_eq_getElem?_getD, List.getElem?_eq_getElem h]
end Go.Proofs.Ythnidgiogjehkaa
