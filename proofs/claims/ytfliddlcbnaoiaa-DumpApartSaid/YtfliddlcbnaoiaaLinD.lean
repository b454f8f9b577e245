/- What is added to a line, in the forms that callers use; line.data, seg.Has. -/
import Derived.Test.YtfliddlcbnaoiaaLinC
namespace Go.Proofs.Ytfliddlcbnaoiaa
set_option linter.unusedVariables false
set_option linter.unusedSimpArgs false
open Go.RowKit

/-- A word, and numbers more. -/
def addN (l wd : List UInt8) (ns : List Nat) : List UInt8 := (wd :: ns.map tenS).foldl addS l
theorem addN_len (l wd : List UInt8) (ns : List Nat) (hn : ∀ n ∈ ns, n < 18446744073709551616) : (addN l wd ns).length ≤ l.length + wd.length + 1 + 21 * ns.length := by
  have h1 := foldT_len ns hn (addS l wd) ns.length (Nat.le_refl _)
  rw [List.take_length] at h1
  have h2 := addS_len l wd
  show ((ns.map tenS).foldl addS (addS l wd)).length ≤ _
  omega
theorem addS_foldl (l p : List UInt8) : addS l p = [p].foldl addS l := rfl
theorem addS_joinS (xs : List (List UInt8)) (p : List UInt8) (h : ∀ x ∈ xs, x ≠ []) : addS (joinS xs) p = joinS (xs ++ [p]) := by
  rw [joinS_snoc]
  unfold addS
  by_cases hx : xs = []
  · subst hx; rfl
  · have : joinS xs ≠ [] := by
      match xs, h, hx with
      | [x], h, _ => exact h x (by simp)
      | x :: y :: r, h, _ => simp [joinS]
    rw [if_neg this, if_neg hx]
theorem foldS_joinS : ∀ (ys xs : List (List UInt8)), (∀ x ∈ xs, x ≠ []) → (∀ y ∈ ys, y ≠ []) → ys.foldl addS (joinS xs) = joinS (xs ++ ys)
  | [], xs, _, _ => by simp
  | y :: ys, xs, hx, hy => by
    rw [List.foldl_cons, addS_joinS xs y hx, foldS_joinS ys (xs ++ [y]) (fun z hz => by
      rcases List.mem_append.1 hz with h | h
      · exact hx z h
      · rw [List.mem_singleton.1 h]; exact hy y (by simp)) (fun z hz => hy z (by simp [hz]))]
    simp
theorem foldS_all (ys : List (List UInt8)) (h : ∀ y ∈ ys, y ≠ []) : ys.foldl addS [] = joinS ys := foldS_joinS ys [] (by simp) h
theorem num2_any (B b : Nat) (l wd : List UInt8) (ns : List Nat) (w : World) (h : Bld w B b l) (hn : ∀ n ∈ ns, n < 18446744073709551616)
    (hl : l.length ≤ 900000000) (hw : wd.length ≤ 1000) (hBw : B ≤ w.heap.size) (hnl : ns.length ≤ 1000) (sb : ByteArray) (hsb : sb = strOf wd) (cs : Array Value) (hcs : cs = (numVs ns).toArray) (k : Nat) (hk : k = ns.length) :
    Calls Try.prog 17 #[.pointer (some ⟨b, 0, none⟩), .string sb, .slice (some ⟨w.heap.size, 0, none⟩) k k] (w.alloc (.cells cs 50)) fun e w' => e = .returned (.tuple #[]) ∧ Bld w' B b (addN l wd ns) ∧ Below B w w' ∧ KeepT b w w' := by
  subst hsb
  exact num1_any B b l wd ns w h hn hl hw hBw hnl cs hcs k hk
theorem add2_any (B b : Nat) (l p : List UInt8) (w : World) (h : Bld w B b l) (hl : l.length + p.length ≤ 999999000) (hBw : B ≤ w.heap.size) (sb : ByteArray) (hsb : sb = strOf p) :
    Calls Try.prog 18 #[.pointer (some ⟨b, 0, none⟩), .slice (some ⟨w.heap.size, 0, none⟩) 1 1] (w.alloc (.cells #[.string sb] 9)) fun e w' => e = .returned (.tuple #[]) ∧ Bld w' B b (addS l p) ∧ Below B w w' ∧ KeepT b w w' := by
  subst hsb
  exact add1_any B b l p w h hl hBw
def dataN (l : List UInt8) (n : Nat) : List UInt8 := if 0 < n then addN l wData [n] else l
set_option maxHeartbeats 1000000 in
theorem data_any (B b : Nat) (l : List UInt8) (n : Nat) (w : World) (h : Bld w B b l) (hl : l.length ≤ 900000000) (hBw : B ≤ w.heap.size) (hn : n ≤ 9223372036854775807) :
    Calls Try.prog 21 #[.pointer (some ⟨b, 0, none⟩), .int .i64 (n : Int)] w fun e w' => e = .returned (.tuple #[]) ∧ Bld w' B b (dataN l n) ∧ Below B w w' ∧ KeepT b w w' := by
  have hw : (n : Int) % 18446744073709551616 = (n : Int) := by omega
  have H := hid h
  have HL := hid hl
  have HB := hid hBw
  have HN := hid hn
  clear h hl hBw
  by_cases h0 : 0 < n
  · have hd : dataN l n = addN l wData [n] := if_pos h0
    have t1 : decide ((0 : Int) < (n : Int)) = true := decide_eq_true (by omega)
    have t2 : decide (0 < n) = true := decide_eq_true h0
    rw [hd]
    clear hd h0
    go_enter Try.func21, Try.ntmps21
    go_wp2_with fail
    (with_reducible refine Calls.mono (num2_any B b l wData [n] w H.out (by intro x hx; rw [List.mem_singleton.1 hx]; have := HN.out; omega) HL.out (by decide) HB.out (by simp) ⟨#[100, 97, 116, 97]⟩ rfl #[.int .u64 (n : Int)] rfl 1 rfl) ?_)
    rintro e w' ⟨rfl, h1, h2, h3⟩
    go_wp2_with fail
    go_end0
    exact ⟨rfl, h1, h2, h3⟩
  · have hd : dataN l n = l := if_neg h0
    have t1 : decide ((0 : Int) < (n : Int)) = false := decide_eq_false (by omega)
    have t2 : decide (0 < n) = false := decide_eq_false h0
    rw [hd]
    clear hd h0
    go_enter Try.func21, Try.ntmps21
    go_wp2_with fail
    go_end0
    exact ⟨rfl, H.out, Below.refl _ _, KeepT.refl _ _⟩
theorem hasAck_bit (f : Nat) (h : f < 256) : (bits .and .u8 (f : Int) 16 == 16) = decide (f / 16 % 2 = 1) := by
  have : ∀ f : Fin 256, (bits .and .u8 ((f.val : Nat) : Int) 16 == 16) = decide (f.val / 16 % 2 = 1) := by decide +kernel
  exact this ⟨f, h⟩
theorem has16_any (s : SegM) (w : World) (hf : s.flags < 256) : Calls Try.prog 19 #[.agg s.cells, .int .u8 16] w fun e w' => e = .returned (.bool (decide (s.flags / 16 % 2 = 1))) ∧ Below w.heap.size w w' := by
  have hb := hasAck_bit s.flags hf
  have f4 := s.head_at 4 _ rfl
  generalize s.cells = cs at f4
  generalize s.flags = f at hb f4
  generalize decide (f / 16 % 2 = 1) = t at hb
  go_enter Try.func19, Try.ntmps19
  go_wp2_with fail
  go_ret
  exact ⟨rfl, bl1 _ _⟩
theorem rhas16_any (s : SegM) (w : World) (hf : s.flags < 256) : Calls Try.prog 25 #[.agg s.cells, .int .u8 16] w fun e w' => e = .returned (.bool (decide (s.flags / 16 % 2 = 1))) ∧ Below w.heap.size w w' := by
  have hb := hasAck_bit s.flags hf
  have f4 := s.head_at 4 _ rfl
  generalize s.cells = cs at f4
  generalize s.flags = f at hb f4
  generalize decide (f / 16 % 2 = 1) = t at hb
  go_enter Try.func25, Try.ntmps25
  go_wp2_with fail
  go_ret
  exact ⟨rfl, bl1 _ _⟩
end Go.Proofs.Ytfliddlcbnaoiaa
