/- Walk: octets.Put. -/
import Derived.Test.YthnidgiogjehkaaOctA
namespace Go.Proofs.Ythnidgiogjehkaa
set_option linter.unusedVariables false
set_option linter.unusedSimpArgs false
set_option maxRecDepth 20000
open Go.RowKit

set_option maxHeartbeats 800000 in
theorem put_any (u v : Value) (xs : List UInt8) (size : Int) (ns : List UInt64) (w : World) (hx : RB w u xs) (hn : RN w v ns) (s0 : -9223372036854775808 ≤ size) (s1 : size ≤ 9223372036854775807) (hl : xs.length + 8 * ns.length ≤ 70368744177000) :
    Calls Try.prog 30 #[u, .int .i64 size, v] w fun e w' => ∃ A c, e = .returned (.slice A (xs ++ beL (clampN size) ns).length c) ∧ OB w' w.heap.size (.slice A (xs ++ beL (clampN size) ns).length c) (xs ++ beL (clampN size) ns) ∧ Below w.heap.size w w' := by
  obtain ⟨B, cb, rfl, hrown⟩ := hn
  have htop := hrown.top
  have hcap := hrown.cap
  have hcl := clampN_le size
  have hcase : (size < 0 ∧ clampN size = 0) ∨ (0 ≤ size ∧ size ≤ 8 ∧ (clampN size : Int) = size) ∨ (8 < size ∧ clampN size = 8) := by
    unfold clampN; split
    · exact .inl ⟨by assumption, rfl⟩
    · split
      · exact .inr (.inr ⟨by assumption, rfl⟩)
      · exact .inr (.inl ⟨by omega, by omega, by omega⟩)
  have HC := hid hcase
  clear hcase
  generalize clampN size = kk at hcl HC ⊢
  go_enter Try.func30, Try.ntmps30
  go_wp2_with fail
  refine (clone_any u xs _ hx (by omega)).mono ?_
  rintro e w1 ⟨A1, c1, rfl, ho1, hb1⟩
  go_wp2_with fail
  go_loopw [7, 15] (fun o i wr => ∃ k : Nat, k ≤ ns.length ∧ i = .int .i64 k ∧ ∃ (L : List UInt8) (A : Option Addr) (c : Nat), Hid (L = xs ++ beL kk (ns.take k)) ∧ o = .slice A L.length c ∧ OB wr w.heap.size (.slice A L.length c) L ∧ Below w.heap.size w wr) (fun _ i _ => ns.length - (intOf i).toNat)
  case atStart => exact ⟨0, Nat.zero_le _, rfl, xs, A1, c1, by unfold Hid; simp [beL_nil], rfl, ho1, hb1⟩
  case round =>
    obtain ⟨k, hk, rfl, L, A, c, hL, rfl, ho, hb⟩ := hrel
    by_cases hlt : k < ns.length
    · obtain ⟨ad, rfl⟩ := hrown.addr (by rw [hrown.len]; omega)
      have e0 := (hrown.below hb).get k _ (by64_get ns k hlt)
      have hLl : L.length ≤ xs.length + 8 * k := by
        rw [hL.out, List.length_append, beL_length, List.length_take, Nat.min_eq_left (by omega)]
        have := Nat.mul_le_mul_right k hcl
        omega
      have hts := beL_take_succ kk ns k hlt
      generalize ns.getD k 0 = n at e0 hts
      have hn64 := n.toNat_lt
      have HTS : Hid (L ++ beB kk n.toNat = xs ++ beL kk (ns.take (k + 1))) := by unfold Hid; rw [hts, hL.out, List.append_assoc]
      clear hts hL
      rcases HC.out with ⟨h1, h2⟩ | ⟨h1, h1', h2⟩ | ⟨h1, h2⟩
      all_goals
        go_wp2
        go_loopw [7, 10] (fun o j wr => ∃ m : Nat, m ≤ kk ∧ j = .int .i64 ((m : Int) - 1) ∧ ∃ (M : List UInt8) (A : Option Addr) (c : Nat), Hid (M ++ beB m n.toNat = L ++ beB kk n.toNat) ∧ o = .slice A M.length c ∧ OB wr w.heap.size (.slice A M.length c) M ∧ Below w.heap.size w wr) (fun _ j _ => (intOf j + 1).toNat)
        case atStart => exact ⟨kk, Nat.le_refl _, by congr 1; omega, L, A, c, rfl, rfl, ho, hb⟩
        case round =>
          obtain ⟨m, hm, rfl, M, A2, c2, hM, rfl, ho2, hb2⟩ := hrel
          have hMl : M.length + m = L.length + kk := by
            have := congrArg List.length hM.out
            rw [List.length_append, List.length_append, beB_length, beB_length] at this
            exact this
          clear h1 h2
          try clear h1'
          by_cases hm0 : 0 < m
          · obtain ⟨q, rfl⟩ : ∃ q, m = q + 1 := ⟨m - 1, by omega⟩
            have hd : decide (0 ≤ ((q + 1 : Nat) : Int) - 1) = true := by simp
            have hq : ((q + 1 : Nat) : Int) - 1 = (q : Int) := by omega
            rw [hq]
            have HV := hid (byte_at n.toNat q)
            obtain ⟨M', hM'⟩ : ∃ M', M ++ [UInt8.ofNat (n.toNat / 256 ^ q)] = M' := ⟨_, rfl⟩
            have hM2 : Hid (M' ++ beB q n.toNat = L ++ beB kk n.toNat) := by
              unfold Hid; rw [← hM.out, ← hM', List.append_assoc]; rfl
            have HM' := hid hM'
            clear hM'
            go_wp2_with (at_builtin; refine append_u8 (.tmp 27) (.tmp 33) w.heap.size M [UInt8.ofNat (n.toNat / 256 ^ q)] M' HM'.out rfl rfl rfl rfl (ho2.alloc _) (RB.new wr _ _ _ _ 1 rfl rfl (by omega) (by show (#[Value.int .u8 _] : Array Value) = #[Value.int .u8 ((UInt8.ofNat (n.toNat / 256 ^ q)).toNat : Int)]; rw [HV.out])) (by simp; omega) (by simp; have := hb2.size; omega) ?_; intro A3 c3 w3 ho3 hb3 _ _)
            go_roundw
            case rel => exact ⟨q, by omega, rfl, M', A3, c3, hM2, rfl, ho3, hb2.trans ((below_alloc (Below.refl _ _) _ hb2.size).trans hb3)⟩
            case measure => simp [intOf] <;> omega
          · obtain rfl : m = 0 := by omega
            have hd : decide (0 ≤ ((0 : Nat) : Int) - 1) = false := by simp
            have hMe : Hid (M = xs ++ beL kk (ns.take (k + 1))) := by
              have := hM.out
              simp only [beB, List.append_nil] at this
              unfold Hid; rw [this]; exact HTS.out
            have hq : (((0 : Nat) : Int) - 1) = -1 := rfl
            rw [hq]
            go_wp2
            go_roundw
            case rel => exact ⟨k + 1, by omega, by go_num, M, A2, c2, hMe, rfl, ho2, hb2⟩
            case measure => simp [intOf]; omega
    · obtain rfl : k = ns.length := by omega
      have hLe : Hid (xs ++ beL kk ns = L) := by have := hL.out; rw [List.take_length] at this; exact this.symm
      have hdd : decide (ns.length < ns.length) = false := by simp
      clear hL
      go_wp2
      go_ret
      rw [hLe.out]
      exact ⟨A, c, rfl, ho, hb⟩
end Go.Proofs.Ythnidgiogjehkaa
