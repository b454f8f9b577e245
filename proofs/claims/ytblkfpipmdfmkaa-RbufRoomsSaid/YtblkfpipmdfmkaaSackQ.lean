/- Runs that are apart, in plain words: what joining leaves. -/
import Derived.Test.YtblkfpipmdfmkaaSackK
namespace Go.Proofs.Ytblkfpipmdfmkaa
set_option linter.unusedVariables false
set_option linter.unusedSimpArgs false
open Go.RowKit

/-- Runs that rise, are apart, and stand within the span. -/
def Apart : List (Nat × Nat) → Prop
  | [] => True
  | x :: xs => (x.1 < x.2 ∧ x.2 ≤ 65536) ∧ (∀ z ∈ xs, x.2 < z.1) ∧ Apart xs
theorem Apart.mem : ∀ {rs : List (Nat × Nat)}, Apart rs → ∀ z ∈ rs, z.1 < z.2 ∧ z.2 ≤ 65536
  | [], _, z, h => by simp at h
  | x :: xs, ha, z, h => by
    rcases List.mem_cons.1 h with rfl | h
    · exact ha.1
    · exact Apart.mem ha.2.2 z h
theorem Apart.len : ∀ {rs : List (Nat × Nat)} {b : Nat}, Apart rs → (∀ z ∈ rs, b ≤ z.1) → b ≤ 65536 → rs.length + b ≤ 65536
  | [], b, _, _, hb => by simpa using hb
  | x :: xs, b, ha, h, hb => by
    have h0 := h x (List.mem_cons_self ..)
    have := Apart.len (b := x.1 + 1) ha.2.2 (fun z hz => by have := ha.2.1 z hz; have := ha.1; omega) (by have := ha.1; omega)
    simp only [List.length_cons]
    omega
theorem Apart.ok {rs : List (Nat × Nat)} (h : Apart rs) : OkR rs :=
  ⟨by have := h.len (b := 0) (fun _ _ => Nat.zero_le _) (by omega); omega, fun r hr => by have := h.mem r hr; omega⟩
theorem Apart.getD : ∀ {rs : List (Nat × Nat)}, Apart rs → ∀ i j, i < j → j < rs.length → (rs.getD i (0, 0)).2 < (rs.getD j (0, 0)).1
  | [], _, i, j, _, h => by simp at h
  | x :: xs, ha, 0, j + 1, _, h => by
    have hj : j < xs.length := by simpa using h
    have := ha.2.1 (xs.getD j (0, 0)) (by rw [List.getD_eq_getElem?_getD, List.getElem?_eq_getElem hj]; exact List.getElem_mem hj)
    simpa using this
  | x :: xs, ha, i + 1, j + 1, hij, h => by simpa using Apart.getD ha.2.2 i j (by omega) (by simpa using h)
theorem Apart.up {rs : List (Nat × Nat)} (h : Apart rs) : UpR rs := fun i j hij hj => by
  have h1 := h.getD i j hij hj
  have h2 := (h.ok).get i (by omega)
  omega
theorem joinL_far : ∀ (xs : List (Nat × Nat)) (r : Nat × Nat), (∀ z ∈ xs, r.2 < z.1) → joinL xs r = (xs, r)
  | [], r, _ => rfl
  | x :: xs, r, h => by
    have h0 := h x (List.mem_cons_self ..)
    have ih := joinL_far xs r (fun z hz => h z (List.mem_cons_of_mem _ hz))
    unfold joinL
    rw [if_pos (.inr h0), ih]
theorem joinL_lo : ∀ (xs : List (Nat × Nat)) (r : Nat × Nat) (b : Nat), b < r.1 → (∀ z ∈ xs, b < z.1) → b < (joinL xs r).2.1
  | [], r, b, h, _ => h
  | x :: xs, r, b, h, hz => by
    have h0 := hz x (List.mem_cons_self ..)
    have hz' := fun z h => hz z (List.mem_cons_of_mem _ h)
    unfold joinL
    split
    · exact joinL_lo xs r b h hz'
    · exact joinL_lo xs _ b (by simp; omega) hz'
theorem joinL_sub : ∀ (xs : List (Nat × Nat)) (r : Nat × Nat), ∀ z ∈ (joinL xs r).1, z ∈ xs
  | [], r, z, h => h
  | x :: xs, r, z, h => by
    unfold joinL at h
    split at h
    · rcases List.mem_cons.1 h with h | h
      · rw [h]; exact List.mem_cons_self ..
      · exact List.mem_cons_of_mem _ (joinL_sub xs r z h)
    · exact List.mem_cons_of_mem _ (joinL_sub xs _ z h)
theorem joinL_apart : ∀ (xs : List (Nat × Nat)) (r : Nat × Nat), Apart xs → Apart (joinL xs r).1
  | [], r, h => h
  | x :: xs, r, h => by
    unfold joinL
    split
    · exact ⟨h.1, fun z hz => h.2.1 z (joinL_sub xs r z hz), joinL_apart xs r h.2.2⟩
    · exact joinL_apart xs _ h.2.2
theorem joinL_size : ∀ (xs : List (Nat × Nat)) (r : Nat × Nat), Apart xs → r.1 < r.2 → r.2 ≤ 65536 → (joinL xs r).2.1 ≤ r.1 ∧ r.2 ≤ (joinL xs r).2.2 ∧ (joinL xs r).2.2 ≤ 65536
  | [], r, _, h1, h2 => ⟨Nat.le_refl _, Nat.le_refl _, h2⟩
  | x :: xs, r, h, h1, h2 => by
    unfold joinL
    split
    · exact joinL_size xs r h.2.2 h1 h2
    · have hx := h.1
      have := joinL_size xs (min r.1 x.1, max r.2 x.2) h.2.2 (by simp; omega) (by simp; omega)
      simp only at this
      omega
/-- What is left lies apart of what came of joining. -/
theorem joinL_clear : ∀ (xs : List (Nat × Nat)) (r : Nat × Nat), Apart xs → r.1 < r.2 → ∀ z ∈ (joinL xs r).1, z.2 < (joinL xs r).2.1 ∨ (joinL xs r).2.2 < z.1
  | [], r, _, _, z, h => by simp [joinL] at h
  | x :: xs, r, ha, hr, z, h => by
    unfold joinL at h ⊢
    split at h
    · rename_i hc
      rw [if_pos hc]
      rcases List.mem_cons.1 h with rfl | h
      · rcases hc with hc | hc
        · exact .inl (joinL_lo xs r _ hc ha.2.1)
        · rw [joinL_far xs r (fun y hy => by have := ha.2.1 y hy; have := ha.1; omega)]
          exact .inr hc
      · exact joinL_clear xs r ha.2.2 hr z h
    · rename_i hc
      rw [if_neg hc]
      have hx := ha.1
      exact joinL_clear xs _ ha.2.2 (by simp; omega) z h
/-- What came: of joining nothing is lost, and nothing comes to it. -/
theorem joinL_has : ∀ (xs : List (Nat × Nat)) (r : Nat × Nat) (k : Nat), Apart xs → r.1 < r.2 → ((hasR (joinL xs r).1 k || inR k (joinL xs r).2) = (hasR xs k || inR k r))
  | [], r, k, _, _ => rfl
  | x :: xs, r, k, ha, hr => by
    unfold joinL
    split
    · have ih := joinL_has xs r k ha.2.2 hr
      show (hasR (x :: (joinL xs r).1) k || inR k (joinL xs r).2) = _
      simp only [hasR, List.any_cons] at ih ⊢
      rw [Bool.or_assoc, ih, Bool.or_assoc]
    · rename_i hc
      have hx := ha.1
      have ih := joinL_has xs (min r.1 x.1, max r.2 x.2) k ha.2.2 (by simp; omega)
      rw [ih]
      simp only [hasR, List.any_cons]
      have : inR k (min r.1 x.1, max r.2 x.2) = (inR k x || inR k r) := by
        rw [Bool.eq_iff_iff]
        simp [inR]
        omega
      rw [this]
      cases inR k x <;> cases inR k r <;> cases xs.any (inR k) <;> rfl
theorem insR_apart : ∀ (l : List (Nat × Nat)) (r : Nat × Nat), Apart l → r.1 < r.2 → r.2 ≤ 65536 → (∀ z ∈ l, z.2 < r.1 ∨ r.2 < z.1) → Apart (insR l r)
  | [], r, _, h1, h2, _ => ⟨⟨h1, h2⟩, fun z hz => by simp at hz, trivial⟩
  | x :: xs, r, ha, h1, h2, hz => by
    have hx := hz x (List.mem_cons_self ..)
    have hxa := ha.1
    by_cases hc : x.1 < r.1
    · have hx2 : x.2 < r.1 := by omega
      have e : insR (x :: xs) r = x :: insR xs r := by unfold insR; simp [hc]
      rw [e]
      refine ⟨hxa, fun z hm => ?_, insR_apart xs r ha.2.2 h1 h2 (fun z h => hz z (List.mem_cons_of_mem _ h))⟩
      unfold insR at hm
      rcases List.mem_append.1 hm with hm | hm
      · exact ha.2.1 z ((List.takeWhile_sublist _).subset hm)
      · rcases List.mem_cons.1 hm with rfl | hm
        · exact hx2
        · exact ha.2.1 z ((List.dropWhile_sublist _).subset hm)
    · have hx2 : r.2 < x.1 := by omega
      have e : insR (x :: xs) r = r :: x :: xs := by unfold insR; simp [hc]
      rw [e]
      refine ⟨⟨h1, h2⟩, fun z hm => ?_, ha⟩
      rcases List.mem_cons.1 hm with rfl | hm
      · exact hx2
      · have := ha.2.1 z hm
        omega
theorem insR_has (l : List (Nat × Nat)) (r : Nat × Nat) (k : Nat) : hasR (insR l r) k = (hasR l k || inR k r) := by
  have e : hasR l k = (hasR (l.takeWhile (fun x => decide (x.1 < r.1))) k || hasR (l.dropWhile (fun x => decide (x.1 < r.1))) k) := by
    unfold hasR
    rw [← List.any_append, List.takeWhile_append_dropWhile]
  rw [e]
  unfold insR hasR
  rw [List.any_append, List.any_cons]
  cases (l.takeWhile (fun x => decide (x.1 < r.1))).any (inR k) <;> cases (l.dropWhile (fun x => decide (x.1 < r.1))).any (inR k) <;> cases inR k r <;> rfl
theorem joinR_apart (rs : List (Nat × Nat)) (r : Nat × Nat) (h : Apart rs) (h1 : r.1 < r.2) (h2 : r.2 ≤ 65536) : Apart (joinR rs r) := by
  obtain ⟨a, b, c⟩ := joinL_size rs r h h1 h2
  exact insR_apart _ _ (joinL_apart rs r h) (by omega) c (joinL_clear rs r h h1)
theorem joinR_has (rs : List (Nat × Nat)) (r : Nat × Nat) (k : Nat) (h : Apart rs) (h1 : r.1 < r.2) : hasR (joinR rs r) k = (hasR rs k || inR k r) := by
  unfold joinR
  rw [insR_has, joinL_has rs r k h h1]
end Go.Proofs.Ytblkfpipmdfmkaa
