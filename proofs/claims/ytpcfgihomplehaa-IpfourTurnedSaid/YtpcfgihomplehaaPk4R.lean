/- IPv4 in plain words: with one bit of the header turned no packet is parsed as it was. -/
import Derived.Test.YtpcfgihomplehaaPk4Q
namespace Go.Proofs.Ytpcfgihomplehaa
set_option linter.unusedVariables false
set_option linter.unusedSimpArgs false
open Go.RowKit

def turned4 (b : List UInt8) (i j : Nat) : List UInt8 := b.set i (UInt8.ofNat ((b.getD i 0).toNat ^^^ 2 ^ j))
theorem parse4_turned (p : Pkt) (ho : p.Ok) (hm : may4 p = true) (i j : Nat) (hi : i < 20) (hj : j < 8) : parse4 (turned4 (lay4 p) i j) ≠ (p, 0) := by
  intro hE
  obtain ⟨_, _, h0, hp⟩ := parse4_ok _ _ hE
  have hg := perr4_good _ h0
  have hlay := parse4_lay p ho hm []
  rw [List.append_nil] at hlay
  obtain ⟨_, _, h0', _⟩ := parse4_ok _ _ hlay
  have hg' := perr4_good _ h0'
  have hB : lay4 p = head4 p (check4 p) ++ p.load := by unfold lay4; rw [if_pos hm]
  have h := (may4_iff p).1 hm
  have hoff := h.off
  have hl : (lay4 p).length = 20 + p.load.length := by rw [hB, List.length_append, head4_len]
  have hb0 : (lay4 p).getD 0 0 = 0x45 := by rw [hB]; rfl
  have hs' : size4 (lay4 p) = 20 := by unfold size4; rw [hb0]; rfl
  have hal : all4 (lay4 p) = 20 + p.load.length := by
    have := hg'.end_
    have e : p.load = ((lay4 p).take (all4 (lay4 p))).drop (size4 (lay4 p)) := by
      obtain ⟨_, _, _, e⟩ := parse4_ok _ _ hlay
      exact congrArg Pkt.load e
    have e := congrArg List.length e
    rw [hs', List.length_drop, List.length_take] at e
    have := hg'.all
    omega
  have hx := xor_lt ((lay4 p).getD i 0) j hj
  have hbit := xor_bit ((lay4 p).getD i 0) j hj
  have hval : (UInt8.ofNat (((lay4 p).getD i 0).toNat ^^^ 2 ^ j)).toNat = ((lay4 p).getD i 0).toNat ^^^ 2 ^ j := by rw [UInt8.toNat_ofNat']; omega
  have hL : (turned4 (lay4 p) i j).length = 20 + p.load.length := by unfold turned4; rw [List.length_set, hl]
  by_cases h00 : i = 0
  · subst h00
    have e2 : all4 (turned4 (lay4 p) 0 j) = 20 + p.load.length := by
      rw [← hal]; unfold all4 turned4; rw [set_part _ _ _ _ _ (by omega)]
    have b0 : ((turned4 (lay4 p) 0 j).getD 0 0).toNat = 69 ^^^ 2 ^ j := by
      have : (turned4 (lay4 p) 0 j).getD 0 0 = UInt8.ofNat (((lay4 p).getD 0 0).toNat ^^^ 2 ^ j) := by
        unfold turned4
        simp [List.getD_eq_getElem?_getD, List.getElem?_set_self (by omega : 0 < (lay4 p).length)]
      rw [this, hval, hb0]; rfl
    have hk := hg.kind
    have hne : size4 (turned4 (lay4 p) 0 j) ≠ 20 := by
      unfold size4
      rw [b0] at hk ⊢
      have : ∀ j : Fin 8, (69 ^^^ 2 ^ j.val) / 16 = 4 → ((69 ^^^ 2 ^ j.val) % 16) * 4 ≠ 20 := by decide +kernel
      exact this ⟨j, hj⟩ hk
    have e := congrArg (fun q => q.load.length) hp
    have e3 : (pkt4 (turned4 (lay4 p) 0 j)).load.length = 20 + p.load.length - size4 (turned4 (lay4 p) 0 j) := by
      unfold pkt4
      simp only [List.length_drop, List.length_take]
      rw [e2, hL]; omega
    replace e : p.load.length = (pkt4 (turned4 (lay4 p) 0 j)).load.length := e
    rw [e3] at e
    have := hg.low
    have := hg.all
    omega
  · have e0 : (turned4 (lay4 p) i j).getD 0 0 = 0x45 := by unfold turned4; rw [set_getD_ne _ _ _ _ h00, hb0]
    have es : size4 (turned4 (lay4 p) i j) = 20 := by unfold size4; rw [e0]; rfl
    have hsum := hg.sum
    have hsum' := hg'.sum
    rw [es] at hsum
    rw [hs'] at hsum'
    have eT : (turned4 (lay4 p) i j).take 20 = ((lay4 p).take 20).set i (UInt8.ofNat (((lay4 p).getD i 0).toNat ^^^ 2 ^ j)) := by
      unfold turned4; rw [List.take_set]
    have w1 := wsum_set1 ((lay4 p).take 20) i (UInt8.ofNat (((lay4 p).getD i 0).toNat ^^^ 2 ^ j)) (by rw [List.length_take]; omega)
    rw [getD_take _ _ _ _ hi, hval] at w1
    rw [eT, w1] at hsum
    have r1 := wsum_range (((lay4 p).take 20).set i (UInt8.ofNat (((lay4 p).getD i 0).toNat ^^^ 2 ^ j)))
    rw [w1] at r1
    refine foldS_turned (wsum ((lay4 p).take 20)) _ j hj hsum' (wsum_range _).1 (if i % 2 = 0 then 256 else 1) ?_ ?_ r1.1 hsum
    · split
      · exact .inl rfl
      · exact .inr rfl
    · rcases hbit with hb | hb
      · left; rw [hb]; omega
      · right; rw [hb]; omega
end Go.Proofs.Ytpcfgihomplehaa
