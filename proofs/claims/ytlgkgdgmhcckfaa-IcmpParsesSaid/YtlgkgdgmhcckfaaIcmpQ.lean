/- ICMP in plain words: what is laid is read back; what is read may be laid. -/
import Derived.Test.YtlgkgdgmhcckfaaIcmpP
namespace Go.Proofs.Ytlgkgdgmhcckfaa
set_option linter.unusedVariables false
set_option linter.unusedSimpArgs false
open Go.RowKit

theorem restS_length (m : Msg) : (restS m).length = 4 := by unfold restS; split <;> simp [beB_length]
theorem bytesS_length (m : Msg) (six : Bool) (c : Int) : (bytesS m six c).length = 8 + m.data.length := by
  unfold bytesS; simp [restS_length]; omega
theorem wsum_check (t c h l : UInt8) (r : List UInt8) : wsum (t :: c :: h :: l :: r) = (t.toNat * 256 + c.toNat : Int) + (h.toNat * 256 + l.toNat : Int) + wsum r := by
  have h1 := wsum_append [t, c] (h :: l :: r) (by simp)
  have h2 := wsum_append [h, l] r (by simp)
  have e1 : wsum [t, c] = (t.toNat * 256 + c.toNat : Int) := by simp [wsum]
  have e2 : wsum [h, l] = (h.toNat * 256 + l.toNat : Int) := by simp [wsum]
  simp only [List.cons_append, List.nil_append] at h1 h2
  rw [h1, h2, e1, e2]; omega
theorem wsum_bytesS (m : Msg) (six : Bool) (c : Int) (h0 : 0 ≤ c) (h1 : c ≤ 65535) : wsum (bytesS m six c) = wsum (bytesS m six 0) + c := by
  unfold bytesS
  simp only [List.cons_append, List.nil_append]
  rw [wsum_check, wsum_check]
  have := hilo c h0 h1
  have := hilo 0 (by omega) (by omega)
  omega
theorem sumS_range (b : List UInt8) (s d : Adr) : 0 ≤ sumS b s d ∧ sumS b s d ≤ 65535 := foldS_range _
theorem sumS_laid (m : Msg) (s d : Adr) : sumS (bytesS m s.six (65535 - sumS (bytesS m s.six 0) s d)) s d = 65535 := by
  have hr := sumS_range (bytesS m s.six 0) s d
  have hw := wsum_bytesS m s.six (65535 - sumS (bytesS m s.six 0) s d) (by omega) (by omega)
  have hw0 := (wsum_range (bytesS m s.six 0)).1
  unfold sumS at hw hr ⊢
  cases h6 : s.six
  · simp only [h6, Bool.false_eq_true, if_false] at hw hr ⊢
    simp only [wtot_cons, wtot_nil, Int.add_zero] at hw hr ⊢
    rw [h6] at hw0
    rw [hw]
    exact foldS_laid _ hw0
  · simp only [h6, if_true] at hw hr ⊢
    rw [bytesS_length] at hw ⊢
    rw [bytesS_length]
    rw [bytesS_length] at hr
    simp only [wtot_cons, wtot_nil, Int.add_zero] at hw hr ⊢
    rw [h6] at hw0
    have hp := (wsum_range (pseudoS s d 58 (8 + m.data.length))).1
    rw [hw, ← Int.add_assoc]
    exact foldS_laid _ (by omega)
theorem kindS_typS (m : Msg) (hm : m.Ok) (six : Bool) (hk : mayS m six = true) (h4 : ¬ (six = false ∧ m.kind = 3 ∧ m.code = 4)) : kindS (typS m six).toNat (codS m six).toNat six = m.kind := by
  have hc := hm.code
  unfold mayS at hk
  simp only [decide_eq_true_eq] at hk
  obtain ⟨p1, p2, p3, p4, p5, p6, p7⟩ := hk
  have hk5 : m.kind = 1 ∨ m.kind = 2 ∨ m.kind = 3 ∨ m.kind = 4 ∨ m.kind = 5 := by omega
  have hcn : (UInt8.ofNat m.code.toNat).toNat = m.code.toNat := by simp; omega
  unfold kindS typS typK codS
  cases six <;> rcases hk5 with h | h | h | h | h <;> simp [h] at h4 ⊢
  have : m.code.toNat % 256 ≠ 4 := by omega
  simp [this]
theorem codS_val (m : Msg) (hm : m.Ok) (six : Bool) (hk : m.kind ≠ 4) : ((codS m six).toNat : Int) = m.code := by
  have hc := hm.code
  unfold codS
  rw [if_neg hk]
  split <;> (simp; omega)
theorem bytesS_parts (m : Msg) (six : Bool) (c : Int) : (bytesS m six c).getD 0 0 = typS m six ∧ (bytesS m six c).getD 1 0 = codS m six ∧ (bytesS m six c).drop 4 = restS m ++ m.data ∧ (bytesS m six c).drop 6 = (restS m).drop 2 ++ m.data ∧ (bytesS m six c).drop 8 = m.data := by
  have hl := restS_length m
  refine ⟨rfl, rfl, rfl, ?_, ?_⟩
  · show (restS m ++ m.data).drop 2 = _
    rw [List.drop_append_of_le_length (by omega)]
  · show (restS m ++ m.data).drop 4 = _
    rw [← hl, List.drop_left]
theorem readS_bytes (m : Msg) (hm : m.Ok) (six : Bool) (c : Int) (hk : mayS m six = true) (h4 : ¬ (six = false ∧ m.kind = 3 ∧ m.code = 4)) : readS (bytesS m six c) six = m := by
  have hkk := kindS_typS m hm six hk h4
  have hcv := codS_val m hm six
  obtain ⟨e0, e1, e4, e6, e8⟩ := bytesS_parts m six c
  have hi := hm.id
  have hs := hm.seq
  have hu := hm.mtu
  have b4 : be (beB 4 m.mtu.toNat) = m.mtu.toNat := by rw [be_beB]; omega
  have b2 : be (beB 2 m.id.toNat) = m.id.toNat := by rw [be_beB]; omega
  have b2' : be (beB 2 m.seq.toNat) = m.seq.toNat := by rw [be_beB]; omega
  have l4 : (beB 4 m.mtu.toNat).length = 4 := beB_length _ _
  have l2 : (beB 2 m.id.toNat).length = 2 := beB_length _ _
  have l2' : (beB 2 m.seq.toNat).length = 2 := beB_length _ _
  unfold mayS at hk
  simp only [decide_eq_true_eq] at hk
  obtain ⟨p1, p2, p3, p4, p5, p6, p7⟩ := hk
  have t4 : m.kind = 4 → be ((restS m ++ m.data).take 4) = m.mtu.toNat := by
    intro h; unfold restS; rw [if_pos h, List.take_left' l4, b4]
  have t2 : m.kind ≠ 4 → be ((restS m ++ m.data).take 2) = m.id.toNat := by
    intro h; unfold restS; rw [if_neg h, List.append_assoc, List.take_left' l2, b2]
  have t2' : m.kind ≠ 4 → be (((restS m).drop 2 ++ m.data).take 2) = m.seq.toNat := by
    intro h; unfold restS; rw [if_neg h, List.drop_left' l2, List.take_left' l2', b2']
  unfold readS
  rw [e0, e1, hkk, e4, e6, e8]
  obtain ⟨k, co, i, s, u, d⟩ := m
  simp only at *
  have hk5 : k = 1 ∨ k = 2 ∨ k = 3 ∨ k = 4 ∨ k = 5 := by omega
  rcases hk5 with h | h | h | h | h
  all_goals
    subst h
    simp at p1 p2 p3 hcv t4 t2 t2' ⊢
    try (obtain ⟨q1, q2⟩ := p1; subst q1; subst q2)
    try subst p2
    try subst p3
    simp [*]
    try omega
theorem parse_lay (m : Msg) (hm : m.Ok) (s d : Adr) (h : laysB m s = true) : perrS (layS m s d) s d = 0 ∧ parseS (layS m s d) s d = m := by
  have hl := h
  unfold laysB at hl
  simp only [Bool.and_eq_true, Bool.not_eq_true', Bool.and_eq_false_iff, Bool.not_eq_false', decide_eq_false_iff_not] at hl
  obtain ⟨h1, h2⟩ := hl
  have h4 : ¬ (s.six = false ∧ m.kind = 3 ∧ m.code = 4) := by
    rintro ⟨a, b, c⟩
    rw [a] at h2
    simp [b, c] at h2
  have hs := sumS_laid m s d
  have e : layS m s d = bytesS m s.six (65535 - sumS (bytesS m s.six 0) s d) := by unfold layS; rw [if_pos h]
  have hp : perrS (layS m s d) s d = 0 := by
    unfold perrS
    rw [e, bytesS_length, if_neg (by omega), hs, if_neg (by omega), readS_bytes m hm _ _ h1 h4, if_pos h1]
  refine ⟨hp, ?_⟩
  unfold parseS
  rw [if_pos hp, e, readS_bytes m hm _ _ h1 h4]
theorem perrS_may (b : List UInt8) (s d : Adr) (h : perrS b s d = 0) : mayS (parseS b s d) s.six = true := by
  unfold parseS
  rw [if_pos h]
  unfold perrS at h
  split at h
  · omega
  · split at h
    · omega
    · split at h
      · assumption
      · omega
theorem kind3 (t c : Nat) (h : kindS t c false = 3) : c ≠ 4 := by
  unfold kindS at h
  repeat' split at h
  all_goals first | omega | contradiction
theorem perrS_lays (b : List UInt8) (s d : Adr) (h : perrS b s d = 0) : laysB (parseS b s d) s = true := by
  have hm := perrS_may b s d h
  unfold laysB
  rw [hm]
  unfold parseS
  rw [if_pos h]
  cases hs : s.six
  · have h3 := kind3 (b.getD 0 0).toNat (b.getD 1 0).toNat
    unfold readS
    simp only
    generalize (b.getD 1 0).toNat = c at h3 ⊢
    generalize kindS (b.getD 0 0).toNat c false = k at h3 ⊢
    by_cases hk : k = 3
    · have := h3 hk
      subst hk
      have : ¬ ((c : Int) = 4) := by omega
      simp [this]
    · simp [hk]
  · simp
end Go.Proofs.Ytlgkgdgmhcckfaa
