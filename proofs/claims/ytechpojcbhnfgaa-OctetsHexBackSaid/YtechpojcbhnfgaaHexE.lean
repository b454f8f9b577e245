/- Walk of the law OctetsHexBack. -/
import Derived.Test.YtechpojcbhnfgaaHexD
namespace Go.Proofs.Ytechpojcbhnfgaa
set_option linter.unusedVariables false
set_option linter.unusedSimpArgs false
open Go.RowKit

def lower (c : UInt8) : UInt8 := if 65 ≤ c.toNat ∧ c.toNat ≤ 70 then UInt8.ofNat (c.toNat + 32) else c
theorem nib_dig : ∀ k : Fin 16, nib (dig k.val).toNat = k.val := by decide +kernel
theorem dig_nib : ∀ c : Fin 256, nib c.val < 16 → dig (nib c.val) = lower (UInt8.ofNat c.val) := by decide +kernel
theorem dig_nib' (c : UInt8) (h : nib c.toNat < 16) : dig (nib c.toNat) = lower c := by
  have := dig_nib ⟨c.toNat, c.toNat_lt⟩ h
  simpa using this
theorem unhex_of_hex : ∀ xs : List UInt8, unhexOf (hexOf xs) = some xs
  | [] => rfl
  | x :: l => by
    have hx := x.toNat_lt
    have h1 := nib_dig ⟨x.toNat / 16, by omega⟩
    have h2 := nib_dig ⟨x.toNat % 16, by omega⟩
    simp only at h1 h2
    have ih := unhex_of_hex l
    show unhexOf (dig (x.toNat / 16) :: dig (x.toNat % 16) :: hexOf l) = _
    rw [unhexOf, if_pos ⟨by omega, by omega⟩, ih, h1, h2]
    have : x.toNat / 16 * 16 + x.toNat % 16 = x.toNat := by omega
    simp [this]
theorem hex_of_unhex : ∀ ss ys : List UInt8, unhexOf ss = some ys → hexOf ys = ss.map lower
  | [], ys, h => by simp [unhexOf] at h; subst h; rfl
  | [_], ys, h => by simp [unhexOf] at h
  | c :: d :: l, ys, h => by
    rw [unhexOf] at h
    split at h
    · rename_i hn
      cases hl : unhexOf l with
      | none => rw [hl] at h; simp at h
      | some zs =>
        rw [hl] at h
        simp only [Option.map_some, Option.some.injEq] at h
        subst h
        have ih := hex_of_unhex l zs hl
        have e : (UInt8.ofNat (nib c.toNat * 16 + nib d.toNat)).toNat = nib c.toNat * 16 + nib d.toNat := by rw [UInt8.toNat_ofNat']; omega
        show hex1 _ ++ hexOf zs = _
        rw [ih, hex1, e, show (nib c.toNat * 16 + nib d.toNat) / 16 = nib c.toNat by omega, show (nib c.toNat * 16 + nib d.toNat) % 16 = nib d.toNat by omega, dig_nib' c hn.1, dig_nib' d hn.2]
        rfl
    · simp at h

set_option maxHeartbeats 4000000 in
theorem lawHexBack_any (u : Value) (xs ss : List UInt8) (w : World) (hx : RB w u xs) (hs : ss.length ≤ 9223372036854775807) :
    Calls Try.prog 6 #[u, .string (strOf ss)] w fun e w' => e = .returned (.bool true) ∧ Below w.heap.size w w' := by
  have hsz := strOf_size ss
  by_cases h1 : 3000 < xs.length
  · have hd : decide (3000 < xs.length) = true := by simpa using h1
    go_enter Try.func6, Try.ntmps6
    go_wp2_with fail
    refine (long_any _ xs _ hx).mono ?_
    rintro e w' ⟨rfl, rfl⟩
    go_wp2_with fail
    refine (alive_any _).mono ?_
    rintro e w' ⟨rfl, hb⟩
    go_wp2_with fail
    go_ret
    exact ⟨rfl, hb⟩
  have hd : decide (3000 < xs.length) = false := by simpa using h1
  by_cases h3 : 3000 < ss.length
  · have hd3 : (3000 : Int) < ((strOf ss).size : Int) := by rw [hsz]; omega
    go_enter Try.func6, Try.ntmps6
    go_wp2_with fail
    refine (long_any _ xs _ hx).mono ?_
    rintro e w' ⟨rfl, rfl⟩
    go_wp2_with fail
    refine (alive_any _).mono ?_
    rintro e w' ⟨rfl, hb⟩
    go_wp2_with fail
    go_ret
    exact ⟨rfl, hb⟩
  have hd3 : ¬ (3000 : Int) < ((strOf ss).size : Int) := by rw [hsz]; omega
  have hhl := hexOf_length xs
  go_enter Try.func6, Try.ntmps6
  go_wp2_with fail
  refine (long_any _ xs _ hx).mono ?_
  rintro e w' ⟨rfl, rfl⟩
  go_wp2_with fail
  refine (hex_any u xs w hx (by omega)).mono ?_
  rintro e w1 ⟨rfl, hb1⟩
  go_wp2_with fail
  refine (unhex_any (hexOf xs) w1 (by omega)).mono ?_
  rintro e w2 ⟨hv2, hb2⟩
  rw [unhex_of_hex] at hv2
  obtain ⟨A2, c2, rfl, ho2⟩ := hv2
  have HB2 := below_after hb1 hb2 (Nat.le_refl _)
  have q1 := conv_str ho2.rb
  have q2 := conv_str (hx.below HB2)
  go_wp2_with fail
  refine (unhex_any ss w2 (by omega)).mono ?_
  rintro e w3 ⟨hv3, hb3⟩
  have HB3 := below_after HB2 hb3 (Nat.le_refl _)
  cases hu : unhexOf ss with
  | none =>
    rw [hu] at hv3
    cases hv3
    go_wp2_with fail
    refine (alive_any _).mono ?_
    rintro e w' ⟨rfl, hb⟩
    go_wp2_with fail
    go_ret
    exact ⟨rfl, below_after HB3 hb (Nat.le_refl _)⟩
  | some ys =>
    rw [hu] at hv3
    obtain ⟨A3, c3, rfl, ho3⟩ := hv3
    have hm := hex_of_unhex ss ys hu
    have hml : (hexOf ys).length = ss.length := by rw [hm, List.length_map]
    have hyl := hexOf_length ys
    go_wp2_with fail
    refine (hex_any _ ys w3 ho3.rb (by omega)).mono ?_
    rintro e w4 ⟨rfl, hb4⟩
    have HB4 := below_after HB3 hb4 (Nat.le_refl _)
    have hsz2 := strOf_size (hexOf ys)
    rw [hm, List.length_map] at hsz2
    rw [hm]
    have HM := hid hm
    clear hm hu hml hyl q1 q2
    go_wp2_with fail
    go_loopw [57] (fun i wr => ∃ k : Nat, k ≤ ss.length ∧ i = .int .i64 k ∧ wr = w4) (fun i _ => ss.length - (intOf i).toNat)
    case atStart => exact ⟨0, Nat.zero_le _, rfl, rfl⟩
    case round =>
      obtain ⟨k, hk, rfl, rfl⟩ := hrel
      by_cases hlt : k < ss.length
      · have i1 := strOf_get ss k hlt
        have i2 := strOf_get (ss.map lower) k (by rw [List.length_map]; exact hlt)
        have i3 : (ss.map lower).getD k 0 = lower (ss.getD k 0) := by simp [List.getD_eq_getElem?_getD, List.getElem?_eq_getElem hlt]
        rw [i3] at i2
        obtain ⟨x, hx⟩ : ∃ x, x = ss.getD k 0 := ⟨_, rfl⟩
        rw [← hx] at i1 i2
        clear i3 hx
        have hxl := x.toNat_lt
        by_cases hc : 65 ≤ x.toNat ∧ x.toNat ≤ 70
        · have hlo : (lower x).toNat = x.toNat + 32 := by unfold lower; rw [if_pos hc, UInt8.toNat_ofNat']; omega
          have hw1 : IntKind.u8.wrap ((x.toNat : Int) + 32) = (x.toNat : Int) + 32 := IntWalk.u8_in _ (by omega)
          have hlo' : ((lower x).toNat : Int) = (x.toNat : Int) + 32 := by omega
          clear hlo
          go_wp2_with fail
          exact ⟨⟨k + 1, by omega, rfl, trivial⟩, by simp [intOf]; omega⟩
        · have hlo : lower x = x := by unfold lower; rw [if_neg hc]
          rw [hlo] at i2
          by_cases h65 : 65 ≤ x.toNat
          · have h70 : ¬ (x.toNat ≤ 70) := fun h => hc ⟨h65, h⟩
            go_wp2_with fail
            exact ⟨⟨k + 1, by omega, rfl, trivial⟩, by simp [intOf]; omega⟩
          · go_wp2_with fail
            exact ⟨⟨k + 1, by omega, rfl, trivial⟩, by simp [intOf]; omega⟩
      · go_wp2_with fail
        refine (alive_any _).mono ?_
        rintro e w' ⟨rfl, hb⟩
        go_wp2_with fail
        go_ret
        exact ⟨rfl, below_after HB4 hb (Nat.le_refl _)⟩
end Go.Proofs.Ytechpojcbhnfgaa
