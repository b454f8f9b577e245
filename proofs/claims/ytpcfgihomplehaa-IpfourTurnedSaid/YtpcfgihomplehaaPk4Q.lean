/- IPv4 in plain words: what is read may be; with one hop less; with one bit turned. -/
import Derived.Test.YtpcfgihomplehaaPk4P
namespace Go.Proofs.Ytpcfgihomplehaa
set_option linter.unusedVariables false
set_option linter.unusedSimpArgs false
open Go.RowKit

structure Good4 (b : List UInt8) : Prop where
  len : 20 ≤ b.length
  kind : (b.getD 0 0).toNat / 16 = 4
  low : 20 ≤ size4 b
  up : size4 b ≤ b.length
  sum : foldS (wsum (b.take (size4 b))) = 65535
  all : size4 b ≤ all4 b
  end_ : all4 b ≤ b.length
  mark : mark4 b < 32768
  may : may4 (pkt4 b) = true
theorem perr4_good (b : List UInt8) (h : perr4 b = 0) : Good4 b := by
  unfold perr4 at h
  split at h
  · simp at h
  split at h
  · simp at h
  split at h
  · simp at h
  split at h
  · simp at h
  split at h
  · simp at h
  split at h
  · simp at h
  split at h
  · simp at h
  split at h
  · simp at h
  · rename_i h1 h2 h3 h4 h5 h6 h7 h8
    refine ⟨by omega, by omega, by omega, by omega, by omega, by omega, by omega, by omega, ?_⟩
    cases hm : may4 (pkt4 b)
    · exact absurd (.inr hm) h8
    · rfl
theorem good4_perr (b : List UInt8) (h : Good4 b) : perr4 b = 0 := by
  unfold perr4
  rw [h.sum, h.may]
  have := h.len; have := h.kind; have := h.low; have := h.up; have := h.all; have := h.end_; have := h.mark
  rw [if_neg (by omega), if_neg (by omega), if_neg (by omega), if_neg (by omega), if_neg (by omega), if_neg (by omega), if_neg (by omega), if_neg (by simp; omega)]
theorem parse4_ok (b : List UInt8) (p : Pkt) (h : parse4 b = (p, 0)) : may4 p = true ∧ p.Ok ∧ perr4 b = 0 ∧ p = pkt4 b := by
  unfold parse4 at h
  split at h
  · rename_i h0
    injection h with h _
    subst h
    have hg := perr4_good b h0
    refine ⟨hg.may, ⟨?_, ?_⟩, h0, rfl⟩
    · have := be2_max b 4
      show be ((b.drop 4).take 2) ≤ _
      omega
    · have : (pkt4 b).off = ((mark4 b % 8192 * 8 : Nat) : Int) := rfl
      rw [this]; omega
  · rename_i h0
    injection h with _ h
    exact absurd h h0
theorem parse4_again (b : List UInt8) (p : Pkt) (h : parse4 b = (p, 0)) : parse4 (lay4 p) = (p, 0) := by
  obtain ⟨hm, ho, _⟩ := parse4_ok b p h
  have := parse4_lay p ho hm []
  rwa [List.append_nil] at this
def was4 (b : List UInt8) : Int := ((b.getD 8 0).toNat * 256 + (b.getD 9 0).toNat : Int)
def sum4 (b : List UInt8) : Int := ((b.getD 10 0).toNat * 256 + (b.getD 11 0).toNat : Int)
def turn4 (b : List UInt8) : Int := 65535 - foldS ((65535 - sum4 b) + (65535 - was4 b) + (was4 b - 256))
def hop4 (b : List UInt8) : List UInt8 := ((b.set 8 (b.getD 8 0 - 1)).set 10 (hi8 (turn4 b))).set 11 (lo8 (turn4 b))
theorem getD_take {α : Type} (xs : List α) (n k : Nat) (d : α) (h : k < n) : (xs.take n).getD k d = xs.getD k d := by
  simp [List.getD_eq_getElem?_getD, List.getElem?_take, h]
theorem parse4_hop (b : List UInt8) (h0 : perr4 b = 0) (h8 : 2 ≤ (b.getD 8 0).toNat) : parse4 (hop4 b) = ({ pkt4 b with hops := b.getD 8 0 - 1 }, 0) := by
  have hg := perr4_good b h0
  have hl := hg.len
  have hL : (hop4 b).length = b.length := by unfold hop4; simp
  have e0 : ∀ k, k ≠ 8 → k ≠ 10 → k ≠ 11 → (hop4 b).getD k 0 = b.getD k 0 := by
    intro k a a' a''
    unfold hop4
    rw [set_getD_ne _ _ _ _ (by omega), set_getD_ne _ _ _ _ (by omega), set_getD_ne _ _ _ _ (by omega)]
  have ep : ∀ k n, (11 < k ∨ k + n ≤ 8) → ((hop4 b).drop k).take n = (b.drop k).take n := by
    intro k n hk
    unfold hop4
    rw [set_part _ _ _ _ _ (by omega), set_part _ _ _ _ _ (by omega), set_part _ _ _ _ _ (by omega)]
  have e8 : (hop4 b).getD 8 0 = b.getD 8 0 - 1 := by
    unfold hop4
    rw [set_getD_ne _ _ _ _ (by omega), set_getD_ne _ _ _ _ (by omega)]
    simp [List.getD_eq_getElem?_getD, List.getElem?_set_self (by omega : 8 < b.length)]
  have es : size4 (hop4 b) = size4 b := by unfold size4; rw [e0 0 (by omega) (by omega) (by omega)]
  have ea : all4 (hop4 b) = all4 b := by unfold all4; rw [ep 2 2 (by omega)]
  have em : mark4 (hop4 b) = mark4 b := by unfold mark4; rw [ep 6 2 (by omega)]
  have el : ((hop4 b).take (all4 b)).drop (size4 b) = (b.take (all4 b)).drop (size4 b) := by
    have hz := hg.low
    rw [List.drop_take, List.drop_take]
    exact ep (size4 b) _ (.inl (by omega))
  have hpk : pkt4 (hop4 b) = { pkt4 b with hops := b.getD 8 0 - 1 } := by
    unfold pkt4
    rw [em, ea, es, el, e8, e0 9 (by omega) (by omega) (by omega), ep 12 4 (by omega), ep 16 4 (by omega), ep 4 2 (by omega)]
  have hsum : foldS (wsum ((hop4 b).take (size4 b))) = 65535 := by
    have hs := hg.sum
    have hz := hg.low
    have hu := hg.up
    have hk := hg.kind
    have c1 := (foldS_range ((65535 - sum4 b) + (65535 - was4 b) + (was4 b - 256)))
    have hv := hilo (turn4 b) (by unfold turn4; omega) (by unfold turn4; omega)
    have g1 := getD_take b (size4 b) 8 0 (by omega)
    have g2 := getD_take b (size4 b) 10 0 (by omega)
    have g3 := getD_take b (size4 b) 11 0 (by omega)
    have g0 := getD_take b (size4 b) 0 0 (by omega)
    have hlt : (b.take (size4 b)).length = size4 b := by simp; omega
    have eT : (hop4 b).take (size4 b) = (((b.take (size4 b)).set 8 (b.getD 8 0 - 1)).set 10 (hi8 (turn4 b))).set 11 (lo8 (turn4 b)) := by
      unfold hop4
      rw [List.take_set, List.take_set, List.take_set]
    rw [eT]
    generalize b.take (size4 b) = X at hs g1 g2 g3 g0 hlt ⊢
    have w1 := wsum_set1 X 8 (b.getD 8 0 - 1) (by omega)
    have w2 := wsum_set1 (X.set 8 (b.getD 8 0 - 1)) 10 (hi8 (turn4 b)) (by simp; omega)
    have w3 := wsum_set1 ((X.set 8 (b.getD 8 0 - 1)).set 10 (hi8 (turn4 b))) 11 (lo8 (turn4 b)) (by simp; omega)
    rw [set_getD_ne _ _ _ _ (by omega)] at w2
    rw [set_getD_ne _ _ _ _ (by omega), set_getD_ne _ _ _ _ (by omega)] at w3
    rw [g1] at w1
    rw [g2] at w2
    rw [g3] at w3
    rw [show (if 8 % 2 = 0 then (256 : Int) else 1) = 256 from rfl] at w1
    rw [show (if 10 % 2 = 0 then (256 : Int) else 1) = 256 from rfl] at w2
    rw [show (if 11 % 2 = 0 then (256 : Int) else 1) = 1 from rfl] at w3
    have d8 : ((b.getD 8 0 - 1).toNat : Int) = (b.getD 8 0).toNat - 1 := by
      have : (1 : UInt8) ≤ b.getD 8 0 := UInt8.le_iff_toNat_le.2 (by rw [show (1 : UInt8).toNat = 1 from rfl]; omega)
      rw [UInt8.toNat_sub_of_le _ _ this, show (1 : UInt8).toNat = 1 from rfl]
      omega
    have hX := wsum_drop2 X (by omega)
    have hr := (wsum_range (X.drop 2)).1
    have hX2 := wsum_range (((X.set 8 (b.getD 8 0 - 1)).set 10 (hi8 (turn4 b))).set 11 (lo8 (turn4 b)))
    have key : wsum (((X.set 8 (b.getD 8 0 - 1)).set 10 (hi8 (turn4 b))).set 11 (lo8 (turn4 b))) = wsum X - 256 - sum4 b + turn4 b := by
      rw [w3, w2, w1, d8]
      have : sum4 b = ((b.getD 10 0).toNat * 256 + (b.getD 11 0).toNat : Int) := rfl
      omega
    have hpos : 0 < wsum (((X.set 8 (b.getD 8 0 - 1)).set 10 (hi8 (turn4 b))).set 11 (lo8 (turn4 b))) := by
      have hY := wsum_drop2 (((X.set 8 (b.getD 8 0 - 1)).set 10 (hi8 (turn4 b))).set 11 (lo8 (turn4 b))) (by simp; omega)
      rw [set_getD_ne _ _ _ _ (by omega), set_getD_ne _ _ _ _ (by omega), set_getD_ne _ _ _ _ (by omega), g0] at hY
      have := (wsum_range ((((X.set 8 (b.getD 8 0 - 1)).set 10 (hi8 (turn4 b))).set 11 (lo8 (turn4 b))).drop 2)).1
      omega
    rw [key] at hpos ⊢
    unfold turn4 at hpos ⊢
    have hc : 0 ≤ sum4 b ∧ sum4 b ≤ 65535 := by unfold sum4; have := (b.getD 10 0).toNat_lt; have := (b.getD 11 0).toNat_lt; omega
    generalize sum4 b = c at hpos hc ⊢
    rw [show (65535 - c) + (65535 - was4 b) + (was4 b - 256) = 130814 - c by omega] at hpos ⊢
    generalize wsum X = S at hs hpos ⊢
    unfold foldS at hs hpos ⊢
    split at hs <;> (try split at hpos) <;> split <;> omega
  have hmy : may4 (pkt4 (hop4 b)) = true := by rw [hpk]; exact hg.may
  have h1 : perr4 (hop4 b) = 0 := good4_perr _ ⟨by omega, by rw [e0 0 (by omega) (by omega) (by omega)]; exact hg.kind, by rw [es]; exact hg.low, by rw [es, hL]; exact hg.up, by rw [es]; exact hsum, by rw [es, ea]; exact hg.all,
    by rw [ea, hL]; exact hg.end_, by rw [em]; exact hg.mark, hmy⟩
  unfold parse4
  rw [if_pos h1, hpk]
end Go.Proofs.Ytpcfgihomplehaa
