/- Boards in plain words: what a step keeps, where a hole is; First of a board that is. -/
import Derived.Test.YtblkfpipmdfmkaaSackV
namespace Go.Proofs.Ytblkfpipmdfmkaa
set_option linter.unusedVariables false
set_option linter.unusedSimpArgs false
open Go.RowKit

theorem first_any (g f : Nat) (rs : List (Nat × Nat)) (w : World) (h : Brd w g f rs) : Calls Try.prog 33 #[.pointer (some ⟨g, 0, none⟩)] w fun e w' => e = .returned (.int .u32 (f : Int)) ∧ w = w' := by
  have HO := hid (ok_yes g f rs w h)
  obtain ⟨z1, A, c, c2, hrow⟩ := h.cells
  clear hrow c2
  go_enter Try.func33, Try.ntmps33
  go_wp2_with fail
  (with_reducible refine Calls.mono HO.out ?_)
  rintro e w' ⟨rfl, rfl⟩
  go_wp2_with fail
  go_ret
  exact ⟨rfl, rfl⟩

theorem advR_has (d k : Nat) (rs : List (Nat × Nat)) (hk : d ≤ k) (h : hasR rs k = true) : hasR (advR d rs) (k - d) = true := by
  unfold hasR at *
  obtain ⟨x, hx, hi⟩ := List.any_eq_true.1 h
  simp only [inR, Bool.and_eq_true, decide_eq_true_eq] at hi
  refine List.any_eq_true.2 ⟨(x.1 - d, x.2 - d), ?_, ?_⟩
  · unfold advR
    exact List.mem_filterMap.2 ⟨x, hx, by rw [if_pos (by omega)]⟩
  · simp only [inR, Bool.and_eq_true, decide_eq_true_eq]
    omega
theorem advR_apart (d : Nat) : ∀ (rs : List (Nat × Nat)), Apart rs → Apart (advR d rs)
  | [], _ => trivial
  | x :: xs, h => by
    have ih := advR_apart d xs h.2.2
    have h1 := h.1
    unfold advR at ih ⊢
    by_cases hd : d < x.2
    · rw [List.filterMap_cons_some (b := (x.1 - d, x.2 - d)) (by rw [if_pos hd])]
      refine ⟨⟨by simp only; omega, by simp only; omega⟩, fun z hz => ?_, ih⟩
      obtain ⟨y, hy, he⟩ := List.mem_filterMap.1 hz
      have := h.2.1 y hy
      split at he
      · injection he with he
        rw [← he]
        simp only
        omega
      · simp at he
    · rw [List.filterMap_cons_none (by rw [if_neg hd])]
      exact ih
theorem addR1_apart (f e : Nat) (rs : List (Nat × Nat)) (b : Nat × Nat) (h : Apart rs) : Apart (addR1 f e rs b) := by
  unfold addR1
  generalize aheadS f b.1 = x
  generalize aheadS f b.2 = y
  split
  · exact joinR_apart rs (x, y) h (by simp only; omega) (by simp only; omega)
  · exact h
theorem addR1_has (f e k : Nat) (rs : List (Nat × Nat)) (b : Nat × Nat) (h : Apart rs) (hk : hasR rs k = true) : hasR (addR1 f e rs b) k = true := by
  unfold addR1
  generalize aheadS f b.1 = x
  generalize aheadS f b.2 = y
  split
  · rw [joinR_has rs (x, y) k h (by simp only; omega), hk]
    rfl
  · exact hk
theorem addR_apart (f e : Nat) : ∀ (bs rs : List (Nat × Nat)), Apart rs → Apart (addR f e rs bs)
  | [], rs, h => h
  | b :: bs, rs, h => addR_apart f e bs _ (addR1_apart f e rs b h)
theorem addR_has (f e k : Nat) : ∀ (bs rs : List (Nat × Nat)), Apart rs → hasR rs k = true → hasR (addR f e rs bs) k = true
  | [], rs, h, hk => hk
  | b :: bs, rs, h, hk => addR_has f e k bs _ (addR1_apart f e rs b h) (addR1_has f e k rs b h hk)
/-- What came stays so, unless the first number is past it. -/
def Keeps (f : Nat) (rs : List (Nat × Nat)) (f' : Nat) (rs' : List (Nat × Nat)) : Prop := ∀ n, n < 4294967296 → hasR rs (aheadS f n) = true → aheadS f' n < 65536 → hasR rs' (aheadS f' n) = true
theorem Keeps.refl (f : Nat) (rs : List (Nat × Nat)) : Keeps f rs f rs := fun _ _ h _ => h
theorem Keeps.add (f e : Nat) (rs bs : List (Nat × Nat)) (h : Apart rs) : Keeps f rs f (addR f e rs bs) := fun n _ hk _ => addR_has f e _ bs rs h hk
theorem ahead_two (f f' n k d j : Nat) (hf : f < 4294967296) (hf' : f' < 4294967296) (hn : n < 4294967296) (h1 : aheadS f n = k) (h2 : aheadS f f' = d) (h3 : aheadS f' n = j) (hk : k < 65536) (hd : d ≤ 65536) (hj : j < 65536) : d ≤ k ∧ j = k - d := by
  unfold aheadS at h1 h2 h3
  omega
theorem Keeps.adv (f f' : Nat) (rs : List (Nat × Nat)) (h : OkR rs) (hf : f < 4294967296) (hf' : f' < 4294967296) (hd : aheadS f f' ≤ 65536) : Keeps f rs f' (advR (aheadS f f') rs) := fun n hn hk hj => by
  obtain ⟨k, hk1⟩ : ∃ k, aheadS f n = k := ⟨_, rfl⟩
  obtain ⟨d, hd1⟩ : ∃ d, aheadS f f' = d := ⟨_, rfl⟩
  obtain ⟨j, hj1⟩ : ∃ j, aheadS f' n = j := ⟨_, rfl⟩
  rw [hk1] at hk
  rw [hj1] at hj ⊢
  rw [hd1] at hd ⊢
  have hkl : k < 65536 := by
    unfold hasR at hk
    obtain ⟨x, hx, hi⟩ := List.any_eq_true.1 hk
    have := h.2 x hx
    simp only [inR, Bool.and_eq_true, decide_eq_true_eq] at hi
    omega
  obtain ⟨h1, h2⟩ := ahead_two f f' n k d j hf hf' hn hk1 hd1 hj1 hkl hd hj
  rw [h2]
  exact advR_has d k rs h1 hk
/-- A block's two ends are of what came. -/
theorem ahead_of (f x : Nat) (hf : f < 4294967296) (hx : x < 4294967296) : aheadS f ((f + x) % 4294967296) = x := by
  unfold aheadS
  omega
theorem ahead_pred (f x : Nat) (hf : f < 4294967296) (h0 : 0 < x) (hx : x < 4294967296) : aheadS f (((f + x) % 4294967296 + 4294967295) % 4294967296) = x - 1 := by
  unfold aheadS
  omega
theorem ends_has (rs : List (Nat × Nat)) (h : Apart rs) (k : Nat) (hk : k < rs.length) : hasR rs (rs.getD k (0, 0)).1 = true ∧ hasR rs ((rs.getD k (0, 0)).2 - 1) = true := by
  have e : rs.getD k (0, 0) = rs[k] := by simp [List.getD_eq_getElem?_getD, List.getElem?_eq_getElem hk]
  have hm := h.mem _ (List.getElem_mem hk)
  rw [e]
  refine ⟨hasR_mem rs k _ hk ?_, hasR_mem rs k _ hk ?_⟩ <;> rw [e] <;> simp only [inR, Bool.and_eq_true, decide_eq_true_eq] <;> omega
/-! ### Holes -/
def Holes (rs : List (Nat × Nat)) : Bool := match rs with | [] => false | [x] => decide (x.1 ≠ 0) | _ => true
theorem no_hole (rs : List (Nat × Nat)) (m : Nat) (h : Apart rs) (hh : Holes rs = false) : holeR rs 0 65536 m = none := by
  match rs, h, hh with
  | [], _, _ => rfl
  | [x], h, hh =>
    have h1 := h.1
    have : x.1 = 0 := by simpa [Holes] using hh
    simp [holeR, this]
  | _ :: _ :: _, _, hh => simp [Holes] at hh
theorem has_none (rs : List (Nat × Nat)) (j : Nat) (h : ∀ z ∈ rs, j < z.1 ∨ z.2 ≤ j) : hasR rs j = false := by
  unfold hasR
  rw [List.any_eq_false]
  intro z hz
  have := h z hz
  simp only [inR, Bool.and_eq_true, decide_eq_true_eq]
  omega
/-- A hole: k its first number, t the number behind it, which came. -/
theorem hole_gap (rs : List (Nat × Nat)) (m : Nat) (h : Apart rs) (hm : 1 ≤ m) (hh : Holes rs = true) :
    ∃ k t, holeR rs 0 65536 m = some (k, min (t - k) m) ∧ k < t ∧ t < 65536 ∧ (∃ i, i < rs.length ∧ (rs.getD i (0, 0)).1 = t) ∧ hasR rs t = true ∧ ∀ j, k ≤ j → j < t → hasR rs j = false := by
  match rs, h, hh with
  | [], _, hh => simp [Holes] at hh
  | x :: xs, h, hh =>
    have h1 := h.1
    by_cases hx : 0 < x.1
    · refine ⟨0, x.1, ?_, hx, by omega, ⟨0, by simp, rfl⟩, ?_, fun j _ hj => has_none _ j fun z hz => ?_⟩
      · show (if 65536 ≤ x.1 then none else if 0 < x.1 then some (0, min (x.1 - 0) m) else holeR xs (max 0 x.2) 65536 m) = _
        rw [if_neg (by omega), if_pos hx]
      · simp [hasR, inR, h1.1]
      · rcases List.mem_cons.1 hz with rfl | hz
        · exact .inl hj
        · have := h.2.1 z hz
          omega
    · match xs, h, hh with
      | [], _, hh => simp [Holes] at hh; omega
      | y :: ys, h, _ =>
        have h2 := h.2.1 y (List.mem_cons_self ..)
        have h3 := h.2.2.1
        refine ⟨x.2, y.1, ?_, h2, by omega, ⟨1, by simp, rfl⟩, ?_, fun j hj1 hj => has_none _ j fun z hz => ?_⟩
        · show (if 65536 ≤ x.1 then none else if 0 < x.1 then some (0, min (x.1 - 0) m) else (if 65536 ≤ y.1 then none else if max 0 x.2 < y.1 then some (max 0 x.2, min (y.1 - max 0 x.2) m) else holeR ys (max (max 0 x.2) y.2) 65536 m)) = _
          rw [if_neg (by omega), if_neg hx, show max 0 x.2 = x.2 by omega, if_neg (by omega), if_pos h2]
        · simp [hasR, inR, h3.1]
        · rcases List.mem_cons.1 hz with rfl | hz
          · exact .inr hj1
          · rcases List.mem_cons.1 hz with rfl | hz
            · exact .inl hj
            · have := h.2.2.2.1 z hz
              omega
theorem holes_eq (rs : List (Nat × Nat)) : Holes rs = (decide (0 < rs.length) && (decide (1 < rs.length) || decide ((rs.getD 0 (0, 0)).1 ≠ 0))) := by
  match rs with
  | [] => rfl
  | [x] => simp [Holes]
  | x :: y :: zs => simp [Holes]
theorem hole_cases (rs : List (Nat × Nat)) (m : Int) (hv : Option (Nat × Nat)) (h : Apart rs) (he : hv = if m < 1 then none else holeR rs 0 65536 m.toNat) :
    (hv = none ∧ (Holes rs = false ∨ m < 1)) ∨ (1 ≤ m ∧ Holes rs = true ∧ ∃ k t n : Nat, hv = some (k, n) ∧ k < t ∧ t < 65536 ∧ 1 ≤ n ∧ (n : Int) ≤ m ∧ k + n ≤ t ∧ ((n : Int) = m ∨ k + n = t) ∧ (∃ i, i < rs.length ∧ (rs.getD i (0, 0)).1 = t) ∧ hasR rs t = true ∧ ∀ j, k ≤ j → j < t → hasR rs j = false) := by
  by_cases hm : m < 1
  · rw [if_pos hm] at he
    exact .inl ⟨he, .inr hm⟩
  · rw [if_neg hm] at he
    cases hh : Holes rs
    · exact .inl ⟨by rw [he, no_hole rs _ h hh], .inl rfl⟩
    · obtain ⟨k, t, h1, h2, h3, h4, h5, h6⟩ := hole_gap rs m.toNat h (by omega) hh
      refine .inr ⟨by omega, rfl, k, t, min (t - k) m.toNat, by rw [he, h1], h2, h3, by omega, by omega, by omega, by omega, h4, h5, h6⟩
end Go.Proofs.Ytblkfpipmdfmkaa
