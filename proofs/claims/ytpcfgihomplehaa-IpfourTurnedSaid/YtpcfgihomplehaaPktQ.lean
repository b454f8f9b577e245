/- IPv6 in plain words: what is laid is read back, whatever stands behind. -/
import Derived.Test.YtpcfgihomplehaaPktP
namespace Go.Proofs.Ytpcfgihomplehaa
set_option linter.unusedVariables false
set_option linter.unusedSimpArgs false
open Go.RowKit

theorem getD_front {α : Type} (xs ys : List α) (k : Nat) (d : α) (h : k < xs.length) : (xs ++ ys).getD k d = xs.getD k d := by
  simp [List.getD_eq_getElem?_getD, List.getElem?_append_left h]
theorem part_front {α : Type} (xs ys : List α) (k n : Nat) (h : k + n ≤ xs.length) : ((xs ++ ys).drop k).take n = (xs.drop k).take n := by
  rw [List.drop_append_of_le_length (by omega), List.take_append_of_le_length (by rw [List.length_drop]; omega)]
structure May6 (p : Pkt) : Prop where
  src : p.src.six = true
  dst : p.dst.six = true
  past : isPastS p.proto = false
  frag : p.proto ≠ 44
  off : 0 ≤ p.off ∧ p.off % 8 = 0 ∧ p.off ≤ 65528 ∧ p.load.length ≤ 65527 ∧ p.off + p.load.length ≤ 65527
  more : p.more = true → p.load.length % 8 = 0
  whole : p.whole = true → p.more = false ∧ p.off = 0 ∧ p.id = 0
theorem may6_iff (p : Pkt) : may6 p = true ↔ May6 p := by
  unfold may6
  constructor
  · intro h
    simp only [Bool.and_eq_true, Bool.not_eq_true', decide_eq_true_eq, decide_eq_false_iff_not, Bool.or_eq_true] at h
    obtain ⟨⟨⟨⟨⟨⟨h1, h2⟩, h3⟩, h4⟩, h5⟩, h6⟩, h7⟩ := h
    exact ⟨h1, h2, h3, h4, h5, fun hm => by rcases h6 with h | h; rw [hm] at h; cases h; exact h, fun hw => by rcases h7 with h | ⟨⟨h, h'⟩, h''⟩; rw [hw] at h; cases h; exact ⟨h, h', h''⟩⟩
  · intro h
    simp only [Bool.and_eq_true, Bool.not_eq_true', decide_eq_true_eq, decide_eq_false_iff_not, Bool.or_eq_true]
    refine ⟨⟨⟨⟨⟨⟨h.src, h.dst⟩, h.past⟩, h.frag⟩, h.off⟩, ?_⟩, ?_⟩
    · cases hm : p.more
      · exact .inl rfl
      · exact .inr (h.more hm)
    · cases hw : p.whole
      · exact .inl rfl
      · have := h.whole hw
        exact .inr ⟨⟨this.1, this.2.1⟩, this.2.2⟩
theorem heads6_laid (p : Pkt) (hp : p.Ok) (h : May6 p) : heads6 9 0 (if p.whole then p.proto else 44) (frag6 p ++ p.load) =
    .ok p.proto (if p.whole then none else some (p.off.toNat + (if p.more then 1 else 0), p.id)) p.load := by
  have ho := h.off
  have hi := hp.id
  cases hw : p.whole
  · have hf : frag6 p = p.proto :: 0 :: (beB 2 (p.off.toNat + (if p.more then 1 else 0)) ++ beB 4 p.id) := by unfold frag6; rw [hw]; rfl
    have hn : p.off.toNat + (if p.more = true then 1 else 0) < 65536 := by split <;> omega
    have v2 : be (beB 2 (p.off.toNat + (if p.more then 1 else 0))) = p.off.toNat + (if p.more then 1 else 0) := by rw [be_beB]; omega
    have v4 : be (beB 4 p.id) = p.id := by rw [be_beB]; omega
    have l2 : (beB 2 (p.off.toNat + (if p.more then 1 else 0))).length = 2 := beB_length _ _
    have l4 : (beB 4 p.id).length = 4 := beB_length _ _
    rw [hf]
    generalize p.off.toNat + (if p.more = true then 1 else 0) = n at v2 l2 ⊢
    generalize beB 2 n = B at v2 l2 ⊢
    generalize beB 4 p.id = C at v4 l4 ⊢
    have e1 : ((p.proto :: 0 :: (B ++ C) ++ p.load).drop 2).take 2 = B := by
      show ((B ++ C) ++ p.load).take 2 = B
      rw [List.append_assoc]; exact List.take_left' l2
    have e2 : ((p.proto :: 0 :: (B ++ C) ++ p.load).drop 4).take 4 = C := by
      show (((B ++ C) ++ p.load).drop 2).take 4 = C
      rw [List.append_assoc, List.drop_left' l2]; exact List.take_left' l4
    have e3 : (p.proto :: 0 :: (B ++ C) ++ p.load).drop 8 = p.load := by
      show ((B ++ C) ++ p.load).drop 6 = p.load
      exact List.drop_left' (by rw [List.length_append, l2, l4])
    have e4 : ¬ (p.proto :: 0 :: (B ++ C) ++ p.load).length < 8 := by simp [l2, l4]; omega
    unfold heads6
    simp only [Bool.false_eq_true, if_false, if_true]
    rw [if_neg (by omega), if_neg e4, e1, e2, e3, v2, v4]
    rfl
  · have hf : frag6 p = [] := by unfold frag6; rw [hw]; rfl
    rw [hf]
    unfold heads6
    simp only [if_true, List.nil_append]
    rw [if_neg h.frag, h.past]
    rfl
theorem parse6_lay (p : Pkt) (hp : p.Ok) (hm : may6 p = true) (z : List UInt8) : parse6 (bytes6 p ++ z) = (p, 0) := by
  have h := (may6_iff p).1 hm
  have ho := h.off
  have hfl := frag6_len p
  have hl := bytes6_len p
  have hsz : (frag6 p).length + p.load.length ≤ 65535 := by rw [hfl]; split <;> omega
  obtain ⟨q0, q4, q6, q7, q8, q24, q40⟩ := bytes6_parts p hsz
  have hH := heads6_laid p hp h
  have a0 : (bytes6 p ++ z).getD 0 0 = 0x60 := by rw [getD_front _ _ _ _ (by omega), q0]
  have a6 : (bytes6 p ++ z).getD 6 0 = if p.whole then p.proto else 44 := by rw [getD_front _ _ _ _ (by omega), q6]
  have a7 : (bytes6 p ++ z).getD 7 0 = p.hops := by rw [getD_front _ _ _ _ (by omega), q7]
  have a4 : be (((bytes6 p ++ z).drop 4).take 2) = (frag6 p).length + p.load.length := by rw [part_front _ _ _ _ (by omega), q4]
  have a8 : ((bytes6 p ++ z).drop 8).take 16 = p.src.bytes := by rw [part_front _ _ _ _ (by omega), q8]
  have a24 : ((bytes6 p ++ z).drop 24).take 16 = p.dst.bytes := by rw [part_front _ _ _ _ (by omega), q24]
  have a40 : ((bytes6 p ++ z).drop 40).take ((frag6 p).length + p.load.length) = frag6 p ++ p.load := by
    rw [part_front _ _ _ _ (by omega), q40]
    exact List.take_of_length_le (by rw [List.length_append]; omega)
  have hpk : pkt6 (bytes6 p ++ z) p.proto (if p.whole then none else some (p.off.toNat + (if p.more then 1 else 0), p.id)) p.load = p := by
    unfold pkt6
    rw [a7, a8, a24, adr6_bytes _ h.src, adr6_bytes _ h.dst]
    obtain ⟨src, dst, proto, hops, id, whole, more, off, load⟩ := p
    simp only at *
    cases whole
    · cases more
      · simp; omega
      · simp; omega
    · have := h.whole rfl
      simp only at this
      obtain ⟨r1, r2, r3⟩ := this
      subst r1 r2 r3
      rfl
  unfold parse6
  rw [a0, a4, a40, a6, hH]
  rw [if_neg (by rw [List.length_append]; omega), if_neg (by decide), if_neg (by rw [List.length_append]; omega)]
  simp only [hpk, hm, if_true]
end Go.Proofs.Ytpcfgihomplehaa
