/- IPv6 in plain words: what is read may be; with one hop less; with a header more. -/
import Derived.Test.YtpcfgihomplehaaPktQ
namespace Go.Proofs.Ytpcfgihomplehaa
set_option linter.unusedVariables false
set_option linter.unusedSimpArgs false
open Go.RowKit

theorem be2_max (b : List UInt8) (k : Nat) : be ((b.drop k).take 2) ≤ 65535 := by
  have h := be_lt ((b.drop k).take 2)
  have hl : ((b.drop k).take 2).length ≤ 2 := by rw [List.length_take]; omega
  have := Nat.pow_le_pow_right (show 0 < 256 by omega) hl
  omega
theorem be4_max (b : List UInt8) (k : Nat) : be ((b.drop k).take 4) ≤ 4294967295 := by
  have h := be_lt ((b.drop k).take 4)
  have hl : ((b.drop k).take 4).length ≤ 4 := by rw [List.length_take]; omega
  have := Nat.pow_le_pow_right (show 0 < 256 by omega) hl
  omega
theorem heads6_frag : ∀ (n i : Nat) (k : UInt8) (r : List UInt8) (k' : UInt8) (x : Nat × Nat) (r' : List UInt8), heads6 n i k r = .ok k' (some x) r' → x.1 ≤ 65535 ∧ x.2 ≤ 4294967295
  | 0, _, _, _, _, _, _, h => by simp [heads6] at h
  | n + 1, i, k, r, k', x, r', h => by
    unfold heads6 at h
    split at h
    · split at h
      · cases h
      · split at h
        · cases h
        · injection h with _ h _
          injection h with h
          subst h
          exact ⟨be2_max r 2, be4_max r 4⟩
    · split at h
      · split at h
        · cases h
        · split at h
          · cases h
          · split at h
            · cases h
            · split at h
              · cases h
              · exact heads6_frag n _ _ _ _ _ _ h
      · cases h
theorem heads6_err_ne : ∀ (n i : Nat) (k : UInt8) (r : List UInt8), heads6 n i k r ≠ .err 0 := by
  intro n
  induction n with
  | zero => intro i k r; simp [heads6]
  | succ n ih =>
    intro i k r
    unfold heads6
    split
    · split
      · simp
      · split <;> simp
    · split
      · split
        · simp
        · split
          · simp
          · split
            · simp
            · split
              · simp
              · exact ih _ _ _
      · simp
theorem parse6_ok (b : List UInt8) (p : Pkt) (h : parse6 b = (p, 0)) : may6 p = true ∧ p.Ok := by
  unfold parse6 at h
  split at h
  · simp at h
  · split at h
    · simp at h
    · split at h
      · simp at h
      · split at h
        · rename_i e he
          injection h with h1 h2
          subst h2
          exfalso
          exact heads6_err_ne _ _ _ _ he
        · rename_i k f r he
          split at h
          · rename_i hm
            injection h with h1 _
            subst h1
            refine ⟨hm, ?_⟩
            have hfr : ∀ x, f = some x → x.1 ≤ 65535 ∧ x.2 ≤ 4294967295 := fun x hx => heads6_frag _ _ _ _ _ _ _ (by rw [he, hx])
            unfold pkt6
            cases f with
            | none => exact ⟨by simp, by simp⟩
            | some x =>
              have := hfr x rfl
              exact ⟨by simp only; omega, by simp only; omega⟩
          · simp at h
theorem parse6_again (b : List UInt8) (p : Pkt) (h : parse6 b = (p, 0)) : parse6 (lay6 p) = (p, 0) := by
  obtain ⟨hm, ho⟩ := parse6_ok b p h
  unfold lay6
  rw [if_pos hm]
  have := parse6_lay p ho hm []
  rwa [List.append_nil] at this
theorem set_getD_ne (b : List UInt8) (i j : Nat) (x : UInt8) (h : i ≠ j) : (b.set i x).getD j 0 = b.getD j 0 := by
  simp [List.getD_eq_getElem?_getD, List.getElem?_set_ne h]
theorem set_part (b : List UInt8) (i k n : Nat) (x : UInt8) (h : i < k ∨ k + n ≤ i) : ((b.set i x).drop k).take n = (b.drop k).take n := by
  apply List.ext_getElem?
  intro j
  rw [List.getElem?_take, List.getElem?_take]
  split
  · rw [List.getElem?_drop, List.getElem?_drop, List.getElem?_set_ne (by omega)]
  · rfl
/-- A packet with other hops. -/
theorem parse6_hops (b : List UInt8) (x : UInt8) (hl : 40 ≤ b.length) : parse6 (b.set 7 x) = if (parse6 b).2 = 0 then ({ (parse6 b).1 with hops := x }, 0) else (noPkt, (parse6 b).2) := by
  have e0 := set_getD_ne b 7 0 x (by omega)
  have e6 := set_getD_ne b 7 6 x (by omega)
  have e4 := set_part b 7 4 2 x (by omega)
  have e8 := set_part b 7 8 16 x (by omega)
  have e24 := set_part b 7 24 16 x (by omega)
  have e40 := fun n => set_part b 7 40 n x (by omega)
  have e7 : (b.set 7 x).getD 7 0 = x := by simp [List.getD_eq_getElem?_getD, List.getElem?_set_self (by omega : 7 < b.length)]
  have hpk : ∀ k f r, pkt6 (b.set 7 x) k f r = { pkt6 b k f r with hops := x } := by
    intro k f r
    unfold pkt6
    rw [e7, e8, e24]
  have hmy : ∀ p : Pkt, may6 { p with hops := x } = may6 p := fun p => rfl
  unfold parse6
  rw [e0, e4, e6, e40, List.length_set]
  split
  · simp
  · split
    · simp
    · split
      · simp
      · split
        · rename_i e he
          by_cases h0 : e = 0
          · exfalso; subst h0; exact heads6_err_ne _ _ _ _ he
          · simp [h0]
        · rename_i k f r he
          rw [hpk, hmy]
          split <;> simp
end Go.Proofs.Ytpcfgihomplehaa
