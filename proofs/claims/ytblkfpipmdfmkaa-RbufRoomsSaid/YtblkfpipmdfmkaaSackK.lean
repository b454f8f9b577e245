/- Walk: BinarySearchFunc over runs. -/
import Derived.Test.YtblkfpipmdfmkaaSackJ
namespace Go.Proofs.Ytblkfpipmdfmkaa
set_option linter.unusedVariables false
set_option linter.unusedSimpArgs false
open Go.RowKit

def posR (rs : List (Nat × Nat)) (x : Nat) : Nat := (rs.takeWhile (fun r => decide (r.1 < x))).length
theorem posR_eq (x : Nat) : ∀ (rs : List (Nat × Nat)) (i : Nat), i ≤ rs.length → (∀ k, k < i → (rs.getD k (0, 0)).1 < x) → (i < rs.length → ¬ (rs.getD i (0, 0)).1 < x) → posR rs x = i
  | [], i, h, _, _ => by simp at h; subst h; rfl
  | r :: rs, 0, _, _, h2 => by
    have := h2 (by simp)
    simp at this
    unfold posR
    rw [List.takeWhile_cons_of_neg (by simpa using this)]
    rfl
  | r :: rs, i + 1, h, h1, h2 => by
    have h0 := h1 0 (by omega)
    simp at h0
    have ih := posR_eq x rs i (by simpa using h) (fun k hk => by simpa using h1 (k + 1) (by omega)) (fun hk => by simpa using h2 (by simpa using hk))
    unfold posR at ih ⊢
    rw [List.takeWhile_cons_of_pos (by simpa using h0), List.length_cons, ih]
def UpR (rs : List (Nat × Nat)) : Prop := ∀ i j, i < j → j < rs.length → (rs.getD i (0, 0)).1 < (rs.getD j (0, 0)).1
theorem cmp_any (a b x : Int) (w : World) (h0 : 0 ≤ a) (h1 : a ≤ 65536) (h2 : 0 ≤ x) (h3 : x ≤ 65536) : Calls Try.prog 52 #[.agg #[.int .i64 a, .int .i64 b], .int .i64 x] w fun e w' => e = .returned (.int .i64 (a - x)) ∧ Below w.heap.size w w' := by
  go_enter Try.func52, Try.ntmps52
  go_wp2
  go_ret
  exact ⟨rfl, bl1 w _⟩
set_option maxHeartbeats 4000000 in
theorem bsearch_any (A : Option Addr) (c : Nat) (rs : List (Nat × Nat)) (x : Nat) (w : World) (hrow : Row w 2 A rs.length c (rcs rs)) (hr : OkR rs) (hup : UpR rs) (hx : x ≤ 65536) :
    Calls Try.prog 51 #[.slice A rs.length c, .int .i64 (x : Int), .func (.func 52) #[] #[]] w fun e w' =>
      ∃ t, e = .returned (.tuple #[.int .i64 (posR rs x : Int), .bool t]) ∧ Below w.heap.size w w' := by
  have htop := hrow.top
  have hcap := hrow.cap
  have HROW := hid hrow
  have HR := hid hr
  have HUP := hid hup
  have hlen := hr.1
  have HPOS := hid (posR_eq x rs)
  have HC := hid fun W (a b : Nat) (ha : a ≤ 65536) => cmp_any (a : Int) (b : Int) (x : Int) W (by omega) (by omega) (by omega) (by omega)
  clear hrow hr hup
  go_enter Try.func51, Try.ntmps51
  go_wp2_with fail
  go_loopw [9, 10] (fun i j wr => ∃ p q : Nat, p ≤ q ∧ q ≤ rs.length ∧ i = .int .i64 p ∧ j = .int .i64 q ∧ Hid (∀ k, k < p → (rs.getD k (0, 0)).1 < x) ∧ Hid (∀ k, q ≤ k → k < rs.length → ¬ (rs.getD k (0, 0)).1 < x) ∧ Below w.heap.size w wr) (fun i j _ => (intOf j).toNat - (intOf i).toNat)
  case atStart => exact ⟨0, rs.length, Nat.zero_le _, Nat.le_refl _, rfl, rfl, hid (fun k h => by omega), hid (fun k h1 h2 => by omega), Below.refl _ _⟩
  case round =>
    obtain ⟨p, q, hpq, hq, rfl, rfl, hlo, hhi, hb⟩ := hrel
    by_cases hlt : p < q
    · obtain ⟨m, hm⟩ : ∃ m, (p + q) / 2 = m := ⟨_, rfl⟩
      have hmI : ((p : Int) + (q : Int)) / 2 = (m : Int) := by omega
      have hm1 : p ≤ m := by omega
      have hm2 : m < q := by omega
      have hmr : m < rs.length := by omega
      have hmI2 : (m : Int) < (rs.length : Int) := by omega
      have hrow := HROW.out.below hb
      obtain ⟨a, rfl⟩ := hrow.addr (by rw [rcs_length]; omega)
      obtain ⟨l0, l1⟩ := hrow.run m hmr
      have hg := HR.out.get m hmr
      have hupm := HUP.out
      have HX1 := hid (show (rs.getD m (0, 0)).1 < x → ∀ k, k < m + 1 → (rs.getD k (0, 0)).1 < x from fun h k hk => by
        by_cases e : k = m
        · rw [e]; exact h
        · have := hupm k m (by omega) hmr; omega)
      have HX2 := hid (show ¬ (rs.getD m (0, 0)).1 < x → ∀ k, m ≤ k → k < rs.length → ¬ (rs.getD k (0, 0)).1 < x from fun h k hk hk2 => by
        by_cases e : k = m
        · rw [e]; exact h
        · have := hupm m k (by omega) hk2; omega)
      have HB := hid hb
      generalize (rs.getD m (0, 0)).1 = y at *
      generalize (rs.getD m (0, 0)).2 = z at *
      clear hrow hb hupm hm
      go_wp2_with fail
      (with_reducible refine Calls.mono (HC.out _ y z (by omega)) ?_)
      rintro e w1 ⟨rfl, hb1⟩
      have HB1 := hid (below_after HB.out hb1 (Nat.le_refl _))
      clear hb1 l0 l1
      by_cases hyx : y < x
      · have t1 : decide ((y : Int) - (x : Int) < 0) = true := decide_eq_true (by omega)
        have HX := hid (HX1.out hyx)
        clear hyx
        go_wp2_with fail
        go_roundw
        case rel => exact ⟨m + 1, q, by omega, hq, by go_num, rfl, HX, hhi, HB1.out⟩
        case measure => simp [intOf]; omega
      · have t1 : decide ((y : Int) - (x : Int) < 0) = false := decide_eq_false (by omega)
        have HX := hid (HX2.out hyx)
        clear hyx
        go_wp2_with fail
        go_roundw
        case rel => exact ⟨p, m, by omega, by omega, rfl, rfl, hlo, HX, HB1.out⟩
        case measure => simp [intOf]; omega
    · obtain rfl : p = q := by omega
      have hpos := HPOS.out p hq hlo.out (fun h => hhi.out p (Nat.le_refl _) h)
      have HPP := hid hpos
      clear hpos
      by_cases hpl : p < rs.length
      · have hplI : decide ((p : Int) < (rs.length : Int)) = true := decide_eq_true (by omega)
        have hrow := HROW.out.below hb
        obtain ⟨a, rfl⟩ := hrow.addr (by rw [rcs_length]; omega)
        obtain ⟨l0, l1⟩ := hrow.run p hpl
        have hg := HR.out.get p hpl
        have HB := hid hb
        generalize (rs.getD p (0, 0)).1 = y at *
        generalize (rs.getD p (0, 0)).2 = z at *
        clear hrow hb
        go_wp2_with fail
        (with_reducible refine Calls.mono (HC.out _ y z (by omega)) ?_)
        rintro e w1 ⟨rfl, hb1⟩
        have HB1 := hid (below_after HB.out hb1 (Nat.le_refl _))
        clear hb1 l0 l1
        go_wp2_with fail
        go_ret2
        rw [HPP.out]
        exact ⟨_, rfl, HB1.out⟩
      · have hplI : decide ((p : Int) < (rs.length : Int)) = false := decide_eq_false (by omega)
        go_wp2_with fail
        go_ret2
        rw [HPP.out]
        exact ⟨_, rfl, hb⟩
end Go.Proofs.Ytblkfpipmdfmkaa
