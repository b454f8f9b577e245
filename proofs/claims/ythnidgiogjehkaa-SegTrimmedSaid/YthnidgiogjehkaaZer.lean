/- Bytes of zero behind a row of one's own: append(b, make([]byte, k)...). -/
import Derived.Test.YthnidgiogjehkaaU8
import Derived.Test.YthnidgiogjehkaaBlk
import Derived.Test.YthnidgiogjehkaaMod
import Derived.Test.YthnidgiogjehkaaOps
import Derived.Lib.AppendZerosOnto
namespace Go.Proofs.Ythnidgiogjehkaa
set_option linter.unusedVariables false
set_option linter.unusedSimpArgs false
open Go.RowKit

def zeros8 (k : Nat) : List UInt8 := List.replicate k 0
theorem zeroCells8 (k : Nat) : Builtin.zeroCells (Value.int .u8 0).cells k = (by8 (zeros8 k)).toArray := by
  apply Array.ext
  · simp [Builtin.zeroCells, by8, zeros8, Value.cells]
  · intro j h1 h2
    simp only [Builtin.zeroCells, by8, zeros8, Value.cells]
    simp [Nat.mod_one]
    rfl
theorem under_int : Try.prog.underlying 3 = some (.int .i64) := Try.underlying3
theorem by8_zeros (xs : List UInt8) (k : Nat) : by8 (xs ++ zeros8 k) = by8 xs ++ by8 (zeros8 k) := by simp [by8]
theorem len_zeros (xs : List UInt8) (k : Nat) : (xs ++ zeros8 k).length = xs.length + k := by simp [zeros8]
/-- A slice that has no room, or none at all: a new row. -/
theorem own_new_zeros (w : World) (base : Nat) (xs : List UInt8) (k c : Nat) (hc : xs.length + k ≤ c) (hcm : c ≤ maxLen) (hbase : base ≤ w.heap.size) :
    OB (w.drew.alloc (.cells ((by8 xs).toArray ++ Builtin.zeroCells (Value.int .u8 0).cells k ++ Builtin.zeroCells (Value.int .u8 0).cells (c - (xs.length + k))) 5)) base (.slice (some ⟨w.heap.size, 0, none⟩) (xs ++ zeros8 k).length c) (xs ++ zeros8 k) := by
  have hl := len_zeros xs k
  have hz : ∀ n, (by8 (zeros8 n)).length = n := fun n => by rw [by8_length]; simp [zeros8]
  refine ⟨by rw [by8_length, Nat.mul_one], .inr ⟨w.heap.size, c, _, rfl, hbase, heap_alloc_new w.drew _, by omega, hcm, ?_, ?_⟩⟩
  · rw [zeroCells8, zeroCells8]
    simp [hz, by8_length]
    omega
  · rw [zeroCells8, zeroCells8, hl, by8_zeros]
    simp only [Array.toList_append, Nat.mul_one]
    exact List.take_left' (by rw [List.length_append, hz, by8_length])
theorem run_append_zeros8 (w : World) (ty : TypeId) (base : Nat) (v : Value) (xs : List UInt8) (hown : OB w base v xs) (k : Nat) (hlen : xs.length + k ≤ 70368744177664) (hbase : base ≤ w.heap.size) :
    ∃ A' c' w', (Builtin.append_ #[32, 3] ty #[v, .int .i64 (k : Int)]).run Try.prog w = .ok (.slice A' (xs ++ zeros8 k).length c') w' ∧ OB w' base (.slice A' (xs ++ zeros8 k).length c') (xs ++ zeros8 k) ∧ Below base w w' := by
  obtain ⟨i0, hi0, hz0, hz1, hz2⟩ := info_parts info_u8
  have hl := len_zeros xs k
  have hw0 : IntKind.i64.wrap 0 = 0 := by rw [IntKind.wrap_i64]; omega
  have hw : IntKind.i64.wrap (k : Int) = k := by rw [IntKind.wrap_i64]; omega
  have hneg : ¬ ((k : Int) < 0) := by omega
  have h48 : ¬ (281474976710656 < (k : Int)) := by omega
  rcases hown.2 with ⟨rfl, hn⟩ | ⟨g, cap, cur, rfl, hb, hg, hc1, hc2, hcs, hcx⟩
  · have hx0 : xs = [] := List.length_eq_zero_iff.1 hn
    subst hx0
    rcases Nat.eq_zero_or_pos k with rfl | hk
    · refine ⟨none, 0, w, ?_, OB.nil _ _, Below.refl _ _⟩
      simp [Builtin.append_, run_underlying Try.underlying32, run_underlying under_int, sizeOf, typeInfo, hi0, asInt, asIntOf, hz1, hz2, hw0, zeros8]
    · have hr := Lib.run_append_nil_zeros (P := Try.prog) w 32 3 ty 5 i0 _ .i64 .i64 Try.underlying32 under_int hi0 hz0 k hk (by rw [hz1]; omega) (by omega) (by rw [hz2]; omega)
      have ho := own_new_zeros w base [] k (grownCap w k 0 5) (by simpa using grownCap_ge w k 0 5) (grownCap_le_maxLen _ _ _ _ (by unfold maxLen; omega)) hbase
      have hk0 : ([] ++ zeros8 k).length = k := by simp [zeros8]
      rw [hk0] at ho ⊢
      refine ⟨_, _, _, hr, ?_, below_alloc (below_drewN (Below.refl _ _) 1) _ hbase⟩
      simpa [by8] using ho
  · have hst : (xs ++ zeros8 k).length = xs.length + k := hl
    by_cases hk0 : k = 0
    · subst hk0
      have hz0 : xs ++ zeros8 0 = xs := by simp [zeros8]
      rw [hz0]
      refine ⟨some ⟨g, 0, none⟩, cap, w, ?_, hown, Below.refl _ _⟩
      have hsn : ∀ ad : Addr, (storeCells ad []).run Try.prog w = .ok () w := fun _ => rfl
      simp [hsn, Builtin.append_, run_underlying Try.underlying32, run_underlying under_int, sizeOf, typeInfo, hi0, asInt, asIntOf, hz1, hz2, hw0, hc1]
    by_cases hroom : xs.length + k ≤ cap
    · have hz : (by8 (zeros8 k)).length = k := by rw [by8_length]; simp [zeros8]
      have hsz : cur.size = cap := by omega
      have h2 := run_storeCells_at (P := Try.prog) g xs.length 5 (by8 (zeros8 k)) 0 cur w hg (by rw [hz]; omega) (by8_one _)
      rw [Nat.add_zero] at h2
      have hzc := zeroCells8 k
      have had : (⟨g, 0, none⟩ : Addr).add xs.length = ⟨g, xs.length, none⟩ := by unfold Addr.add; split <;> simp_all
      refine ⟨some ⟨g, 0, none⟩, cap, w.setRow g (cur.toList.take xs.length ++ by8 (zeros8 k) ++ cur.toList.drop (xs.length + (by8 (zeros8 k)).length)).toArray, ?_, ?_, ?_⟩
      · rw [hst]
        simp [Builtin.append_, run_underlying Try.underlying32, run_underlying under_int, sizeOf, typeInfo, zeroValue, hi0, hz0, asInt, asIntOf, hz1, hz2, hw, hneg, h48, hroom, hk0, hzc, had, h2]
      · refine ⟨by rw [by8_length, Nat.mul_one], .inr ⟨g, cap, _, rfl, hb, rowSetRow hg _, by rw [hst]; exact hroom, hc2, ?_, ?_⟩⟩
        · simp [hz]; omega
        · rw [Nat.mul_one, by8_zeros, hst]
          rw [Nat.mul_one] at hcx
          rw [hcx]
          show ((by8 xs ++ by8 (zeros8 k)) ++ _).take (xs.length + k) = _
          exact List.take_left' (by rw [List.length_append, hz, by8_length])
      · exact Mod.below (Below.refl _ _) (Mod.setRow g _ (by simp : g ∈ [g])) hbase (by simpa using hb)
    · have hrow : ∀ j u, (by8 xs)[j]? = some u → w.drew.cell? ((⟨g, 0, none⟩ : Addr).add j) = some u := by
        intro j u hu
        have had : (⟨g, 0, none⟩ : Addr).add j = ⟨g, j, none⟩ := by unfold Addr.add; split <;> simp_all
        rw [had, show w.drew.cell? ⟨g, j, none⟩ = w.cell? ⟨g, j, none⟩ from rfl, cell_of_row w g j cur _ _ hg, ← Array.getElem?_toList]
        rw [← hcx, List.getElem?_take] at hu
        split at hu
        · exact hu
        · cases hu
      have hold := run_firstCells_some (P := Try.prog) (w := w.drew) i0.size xs.length ⟨g, 0, none⟩ xs.length cap (by8 xs) (by rw [by8_length, hz1, Nat.mul_one]) hrow
      have hnc := nextslicecap_le (need := xs.length + k) (old := cap) (by omega)
      have hr := Lib.run_append_grow_zeros (P := Try.prog) w 32 3 ty 5 i0 _ .i64 .i64 Try.underlying32 under_int hi0 hz0 (some ⟨g, 0, none⟩) xs.length cap (by8 xs) hold k (by omega) (by rw [hz1]; omega) (by omega) (by omega) (by rw [hz2]; omega) (by rw [hz2]; omega)
      have ho := own_new_zeros w base xs k (grownCap w (xs.length + k) cap 5) (grownCap_ge w _ cap 5) (grownCap_le_maxLen _ _ _ _ (by unfold maxLen; omega)) hbase
      rw [hst] at ho ⊢
      exact ⟨_, _, _, hr, ho, below_alloc (below_drewN (Below.refl _ _) 1) _ hbase⟩
/-- append(b, make([]byte, k)...). -/
theorem wpList_append_zeros8 {ops : Array Oper} {rest : List Oper} {o : Oper} {a : Act} {Q : Exit → Act → World → Prop} {w : World} (hgd : o.guard = none) (s x : Operand)
    (ho : o.op = .call { callee := .builtin .append, args := #[s, x], argTypes := #[32, 3] }) (base : Nat) (v : Value) (xs : List UInt8) (k : Nat) (hs : a.eval s = v) (hx : a.eval x = .int .i64 (k : Int)) (hown : OB w base v xs) (hlen : xs.length + k ≤ 70368744177664) (hbase : base ≤ w.heap.size)
    (h : ∀ A' c' w', OB w' base (.slice A' (xs ++ zeros8 k).length c') (xs ++ zeros8 k) → Below base w w' → wpList Try.prog ops Q rest (a.put o.dst (.slice A' (xs ++ zeros8 k).length c')) w') : wpList Try.prog ops Q (o :: rest) a w := by
  obtain ⟨A', c', w', hr, h1, h2⟩ := run_append_zeros8 w o.type base v xs hown k hlen hbase
  exact Lib.wpList_append_run w hgd s x _ _ ho _ _ hs hx _ w' hr (h A' c' w' h1 h2)
end Go.Proofs.Ythnidgiogjehkaa
