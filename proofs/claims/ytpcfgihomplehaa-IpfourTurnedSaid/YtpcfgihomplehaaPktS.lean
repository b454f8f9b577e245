/- IPv6 in plain words: a header more. -/
import Derived.Test.YtpcfgihomplehaaPktR
namespace Go.Proofs.Ytpcfgihomplehaa
set_option linter.unusedVariables false
set_option linter.unusedSimpArgs false
open Go.RowKit

def size6 (b load : List UInt8) : Nat := be ((b.drop 4).take 2) + 2 + load.length
def wrapped6 (b : List UInt8) (next : UInt8) (load : List UInt8) : List UInt8 :=
  b.take 4 ++ (beB 2 (size6 b load) ++ (next :: ((b.drop 7).take 33 ++ (b.getD 6 0 :: UInt8.ofNat (load.length / 8) :: (load ++ b.drop 40)))))
def wrap6 (b : List UInt8) (next : UInt8) (load : List UInt8) : List UInt8 × Int :=
  if !isPastS next then ([], 11)
  else if load.length % 8 ≠ 6 ∨ 2046 < load.length then ([], 1)
  else if (parse6 b).2 ≠ 0 then ([], (parse6 b).2)
  else if !(parse6 b).1.whole || !decide (b.getD 6 0 = (parse6 b).1.proto) || decide (65535 < size6 b load) then ([], 1)
  else (wrapped6 b next load, 0)
theorem parse6_whole (b : List UInt8) (p : Pkt) (h : parse6 b = (p, 0)) (hw : p.whole = true) (h6 : b.getD 6 0 = p.proto) :
    40 ≤ b.length ∧ (b.getD 0 0).toNat / 16 = 6 ∧ be ((b.drop 4).take 2) ≤ b.length - 40 ∧ isPastS (b.getD 6 0) = false ∧ b.getD 6 0 ≠ 44 ∧
      p = pkt6 b (b.getD 6 0) none ((b.drop 40).take (be ((b.drop 4).take 2))) := by
  have hm := (parse6_ok b p h).1
  have hp : isPastS p.proto = false ∧ p.proto ≠ 44 := by
    unfold may6 at hm
    simp only [Bool.and_eq_true, Bool.not_eq_true', decide_eq_false_iff_not] at hm
    exact ⟨hm.1.1.1.1.2, hm.1.1.1.2⟩
  rw [← h6] at hp
  unfold parse6 at h
  split at h
  · simp at h
  · split at h
    · simp at h
    · split at h
      · simp at h
      · refine ⟨by omega, by omega, by omega, hp.1, hp.2, ?_⟩
        have e : heads6 9 0 (b.getD 6 0) ((b.drop 40).take (be ((b.drop 4).take 2))) = .ok (b.getD 6 0) none ((b.drop 40).take (be ((b.drop 4).take 2))) := by
          unfold heads6
          rw [if_neg hp.2, hp.1]
          rfl
        rw [e] at h
        dsimp only at h
        split at h
        · injection h with h1 _; exact h1.symm
        · simp at h
theorem wrapped6_len (b : List UInt8) (next : UInt8) (load : List UInt8) (hl : 40 ≤ b.length) : (wrapped6 b next load).length = b.length + load.length + 2 := by
  unfold wrapped6
  simp [beB_length]
  omega
theorem wrapped6_parts (b : List UInt8) (next : UInt8) (load : List UInt8) (hl : 40 ≤ b.length) (hs : size6 b load ≤ 65535) :
    (wrapped6 b next load).getD 0 0 = b.getD 0 0 ∧ be (((wrapped6 b next load).drop 4).take 2) = size6 b load ∧ (wrapped6 b next load).getD 6 0 = next ∧
      (wrapped6 b next load).getD 7 0 = b.getD 7 0 ∧ ((wrapped6 b next load).drop 8).take 16 = (b.drop 8).take 16 ∧ ((wrapped6 b next load).drop 24).take 16 = (b.drop 24).take 16 ∧
      (wrapped6 b next load).drop 40 = b.getD 6 0 :: UInt8.ofNat (load.length / 8) :: (load ++ b.drop 40) := by
  have l2 : (beB 2 (size6 b load)).length = 2 := beB_length _ _
  have v2 : be (beB 2 (size6 b load)) = size6 b load := by rw [be_beB]; omega
  unfold wrapped6
  generalize size6 b load = n at l2 v2 ⊢
  generalize beB 2 n = B at l2 v2 ⊢
  obtain ⟨x, y, rfl⟩ : ∃ x y, B = [x, y] := by
    match B, l2 with
    | [x, y], _ => exact ⟨x, y, rfl⟩
  generalize hT : (b.getD 6 0 :: UInt8.ofNat (load.length / 8) :: (load ++ b.drop 40)) = T
  have e7 : (b.drop 7).take 33 = b.getD 7 0 :: ((b.drop 8).take 16 ++ (b.drop 24).take 16) := by
    have : b.drop 7 = b.getD 7 0 :: b.drop 8 := by
      rw [List.drop_eq_getElem_cons (by omega : 7 < b.length)]
      simp [List.getD_eq_getElem?_getD, List.getElem?_eq_getElem (by omega : 7 < b.length)]
    rw [this, List.take_succ_cons, show (32 : Nat) = 16 + 16 from rfl, List.take_add, List.drop_drop]
  have l8 : ((b.drop 8).take 16).length = 16 := by simp; omega
  have l24 : ((b.drop 24).take 16).length = 16 := by simp; omega
  have l4 : (b.take 4).length = 4 := by simp; omega
  have g0 : (b.take 4).getD 0 0 = b.getD 0 0 := by simp [List.getD_eq_getElem?_getD, List.getElem?_take]
  rw [e7]
  generalize (b.drop 8).take 16 = S at l8 ⊢
  generalize (b.drop 24).take 16 = D at l24 ⊢
  generalize b.take 4 = A at l4 g0 ⊢
  obtain ⟨a0, a1, a2, a3, rfl⟩ : ∃ a0 a1 a2 a3, A = [a0, a1, a2, a3] := by
    match A, l4 with
    | [a0, a1, a2, a3], _ => exact ⟨a0, a1, a2, a3, rfl⟩
  refine ⟨g0, v2, rfl, rfl, ?_, ?_, ?_⟩
  · show (S ++ D ++ T).take 16 = S
    rw [List.append_assoc]; exact List.take_left' l8
  · show ((S ++ D ++ T).drop 16).take 16 = D
    rw [List.append_assoc, List.drop_left' l8]; exact List.take_left' l24
  · show (S ++ D ++ T).drop 32 = T
    exact List.drop_left' (by rw [List.length_append, l8, l24])
/-- What is wrapped is parsed as what it was. -/
theorem parse6_wrapped (b : List UInt8) (next : UInt8) (load : List UInt8) (p : Pkt) (h : parse6 b = (p, 0)) (hw : p.whole = true) (h6 : b.getD 6 0 = p.proto)
    (hn : isPastS next = true) (hl : load.length % 8 = 6) (hm : load.length ≤ 2046) (hs : size6 b load ≤ 65535) : parse6 (wrapped6 b next load) = (p, 0) := by
  obtain ⟨q1, q2, q3, q4, q5, q6⟩ := parse6_whole b p h hw h6
  have hmay := (parse6_ok b p h).1
  obtain ⟨p0, p4, p6, p7, p8, p24, p40⟩ := wrapped6_parts b next load q1 hs
  have hlen := wrapped6_len b next load q1
  have hpk : ∀ r, pkt6 (wrapped6 b next load) (b.getD 6 0) none r = pkt6 b (b.getD 6 0) none r := by
    intro r
    unfold pkt6
    rw [p7, p8, p24]
  have hsz : size6 b load = be ((b.drop 4).take 2) + 2 + load.length := rfl
  unfold parse6
  rw [p0, p4, p6, p40, hlen]
  rw [if_neg (by omega), if_neg (by omega), if_neg (by omega)]
  generalize hR : List.take (size6 b load) (b.getD 6 0 :: UInt8.ofNat (load.length / 8) :: (load ++ b.drop 40)) = R
  have eR : R = b.getD 6 0 :: UInt8.ofNat (load.length / 8) :: (load ++ (b.drop 40).take (be ((b.drop 4).take 2))) := by
    rw [← hR, hsz, show be ((b.drop 4).take 2) + 2 + load.length = (load.length + be ((b.drop 4).take 2)) + 1 + 1 by omega, List.take_succ_cons, List.take_succ_cons]
    rw [List.take_append, List.take_of_length_le (by omega), Nat.add_sub_cancel_left]
  have n44 : next ≠ 44 := by rintro rfl; exact absurd hn (by decide)
  have v1 : (UInt8.ofNat (load.length / 8)).toNat = load.length / 8 := by
    rw [UInt8.toNat_ofNat']; omega
  have e : heads6 9 0 next R = .ok (b.getD 6 0) none ((b.drop 40).take (be ((b.drop 4).take 2))) := by
    have g1 : R.getD 1 0 = UInt8.ofNat (load.length / 8) := by rw [eR]; rfl
    have g0 : R.getD 0 0 = b.getD 6 0 := by rw [eR]; rfl
    have lR : R.length = 2 + load.length + ((b.drop 40).take (be ((b.drop 4).take 2))).length := by rw [eR]; simp; omega
    have dR : R.drop (8 * (load.length / 8 + 1)) = (b.drop 40).take (be ((b.drop 4).take 2)) := by
      rw [eR, show 8 * (load.length / 8 + 1) = load.length + 1 + 1 by omega, List.drop_succ_cons, List.drop_succ_cons, List.drop_left' rfl]
    rw [heads6, if_neg n44, if_pos hn, if_neg (by omega), if_neg (by simp), g1, v1, if_neg (by omega), if_neg (by omega), g0, dR]
    rw [heads6, if_neg q5, q4]
    rfl
  rw [e]
  dsimp only
  rw [hpk, ← q6, if_pos hmay]
end Go.Proofs.Ytpcfgihomplehaa
