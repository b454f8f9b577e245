/- Hex: bytes as digits. -/
import Derived.Test.YtfliddlcbnaoiaaHexA
import Derived.Deep.RegionHeld3
import Derived.BigQuiet
import Derived.Deep.QuietTactic
namespace Go.Proofs.Ytfliddlcbnaoiaa
set_option linter.unusedVariables false
set_option linter.unusedSimpArgs false
open Go.RowKit

def dig (k : Nat) : UInt8 := UInt8.ofNat (if k < 10 then 48 + k else 87 + k)
def hex1 (x : UInt8) : List UInt8 := [dig (x.toNat / 16), dig (x.toNat % 16)]
def hexOf (xs : List UInt8) : List UInt8 := xs.flatMap hex1
theorem hexOf_length (xs : List UInt8) : (hexOf xs).length = 2 * xs.length := by
  induction xs with
  | nil => rfl
  | cons x l ih => simp only [hexOf, List.flatMap_cons, List.length_append, List.length_cons] at ih ⊢; rw [ih]; simp [hex1]; omega
theorem hexOf_step (xs : List UInt8) (k : Nat) (hk : k < xs.length) : hexOf (xs.take k) ++ hex1 (xs.getD k 0) = hexOf (xs.take (k + 1)) := by
  rw [List.take_add_one, hexOf, hexOf, List.flatMap_append]
  simp [List.getElem?_eq_getElem hk, List.getD_eq_getElem?_getD]
theorem bits_and15 : ∀ c : Fin 256, bits .and .u8 ((c.val : Nat) : Int) 15 = ((c.val % 16 : Nat) : Int) := by decide +kernel
def signs : ByteArray := ⟨#[48, 49, 50, 51, 52, 53, 54, 55, 56, 57, 97, 98, 99, 100, 101, 102]⟩
theorem signs_get : ∀ k : Fin 16, (signs[k.val]? : Option UInt8) = some (dig k.val) := by decide +kernel
theorem signs_at (k : Nat) (hk : k < 16) (w : World) : (Instr.index 9 (.string ⟨#[48, 49, 50, 51, 52, 53, 54, 55, 56, 57, 97, 98, 99, 100, 101, 102]⟩) (.int .u8 (k : Int))).run Try.prog w = .ok (.int .u8 ((dig k).toNat : Int)) w := by
  rw [run_index_string w _ _ _ _ Try.underlying9, dif_pos ⟨by omega, by show (k : Int) < 16; omega⟩]
  have h := signs_get ⟨k, hk⟩
  have h2 : k < signs.size := hk
  rw [ByteArray.getElem?_lt' signs k h2] at h
  injection h with h
  simp only [Int.toNat_natCast]
  rw [← h]
  rfl
set_option maxHeartbeats 1000000 in
theorem hex_any (v : Value) (xs : List UInt8) (w : World) (hx : RB w v xs) (hl : xs.length ≤ 1000000) :
    Calls Try.prog 34 #[v] w fun e w' => e = .returned (.string (strOf (hexOf xs))) ∧ Below w.heap.size w w' := by
  obtain ⟨A, c, rfl, hrow⟩ := hx
  go_enter Try.func34, Try.ntmps34
  go_wp2_with fail
  go_loopw [3, 8] (fun o i wr => ∃ k : Nat, k ≤ xs.length ∧ i = .int .i64 k ∧ ∃ (L : List UInt8) (A : Option Addr) (c : Nat), Hid (L = hexOf (xs.take k)) ∧ o = .slice A L.length c ∧ OB wr w.heap.size (.slice A L.length c) L ∧ Below w.heap.size w wr) (fun _ i _ => xs.length - (intOf i).toNat)
  case atStart => exact ⟨0, Nat.zero_le _, rfl, [], none, 0, rfl, rfl, OB.nil _ _, Below.refl _ _⟩
  case round =>
    obtain ⟨k, hk, rfl, L, A2, c2, hL, rfl, ho, hb⟩ := hrel
    by_cases hlt : k < xs.length
    · obtain ⟨ad, rfl⟩ := hrow.addr (by rw [hrow.len]; omega)
      have e0 := (hrow.below hb).get k _ (by8_get xs k hlt)
      have hst := hexOf_step xs k hlt
      generalize xs.getD k 0 = x at e0 hst
      have hxl := x.toNat_lt
      go_wp2_with fail
      have i1 := signs_at (x.toNat / 16) (by omega)
      have i2 := signs_at (x.toNat % 16) (by omega)
      have c1 : (x.toNat : Int) / 16 = ((x.toNat / 16 : Nat) : Int) := by omega
      rw [← c1] at i1
      have c2 : bits .and .u8 (x.toNat : Int) 15 = ((x.toNat % 16 : Nat) : Int) := bits_and15 ⟨x.toNat, hxl⟩
      rw [← c2] at i2
      clear c1 c2
      obtain ⟨L', hL'⟩ : ∃ L', L ++ hex1 x = L' := ⟨_, rfl⟩
      have HL' := hid hL'
      have HM : Hid (L' = hexOf (xs.take (k + 1))) := by unfold Hid; rw [← hst, ← hL', hL.out]
      have hLl : L.length ≤ 2 * xs.length := by rw [hL.out, hexOf_length, List.length_take]; omega
      clear hL' hst
      have hws := hb.size
      go_region_held3 (fun w' => True) (trivial) ((refine step_append_u8 (.tmp 12) (.tmp 19) w.heap.size L (hex1 x) L' HL'.out (by rfl) (by rfl) (by rfl) (by rfl) ((ho.drewN 1).alloc _) (RB.new (wr.drewN 1) _ _ _ _ 2 rfl rfl (by omega) rfl) (by show L.length + 2 ≤ _; omega) (by show w.heap.size ≤ ((wr.drewN 1).alloc _).heap.size; simp; omega) ?_; intro A3 c3 w3 ho3 hb3 _ _))
      all_goals
        go_wp2
        go_roundw
        case rel => exact ⟨k + 1, by omega, rfl, L', A3, c3, HM, rfl, ho3, hb.trans ((below_alloc (Below.refl w.heap.size wr) (.cells _ _) hws).drew.trans hb3)⟩
        case measure => simp [intOf] <;> omega
    · have hkl : k = xs.length := by omega
      rw [hkl, List.take_length] at hL
      go_wp2_with fail
      go_wp2
      rw [conv_str ho.rb]
      go_wp2
      go_ret
      exact ⟨by rw [hL.out]; rfl, hb⟩

theorem rdig (k : Nat) (hk : k < 16) (w : World) : (Instr.slice 9 (.string ⟨#[48, 49, 50, 51, 52, 53, 54, 55, 56, 57, 97, 98, 99, 100, 101, 102]⟩) (some (.int .u8 (k : Int))) (some (.int .u8 ((k : Int) + 1))) none).run Try.prog w = .ok (.string (strOf [dig k])) w := by
  rw [run_slice_string w _ _ _ _ _ _ Try.underlying9 (by omega) (by omega) (by show (k : Int) + 1 ≤ 16; omega)]
  have h : ∀ k : Fin 16, (signs.extract k.val (k.val + 1)) = strOf [dig k.val] := by decide +kernel
  have h1 := h ⟨k, hk⟩
  simp only at h1
  rw [← h1]
  simp only [Int.toNat_natCast]
  rfl
set_option maxHeartbeats 1000000 in
theorem rhex_any (v : Value) (xs : List UInt8) (w : World) (hx : RB w v xs) (hl : xs.length ≤ 1000000) :
    Calls Try.prog 26 #[v] w fun e w' => e = .returned (.string (strOf (hexOf xs))) ∧ ∃ n, w' = w.drewN n := by
  obtain ⟨A, c, rfl, hrow⟩ := hx
  go_enter Try.func26, Try.ntmps26
  go_wp2_with fail
  go_loopw [4, 5] (fun o i wr => ∃ k : Nat, k ≤ xs.length ∧ i = .int .i64 k ∧ ∃ L : List UInt8, Hid (L = hexOf (xs.take k)) ∧ o = .string (strOf L) ∧ ∃ n, wr = w.drewN n) (fun _ i _ => xs.length - (intOf i).toNat)
  case atStart => exact ⟨0, Nat.zero_le _, rfl, [], rfl, rfl, 0, rfl⟩
  case round =>
    obtain ⟨k, hk, rfl, L, hL, rfl, n, rfl⟩ := hrel
    by_cases hlt : k < xs.length
    · obtain ⟨ad, rfl⟩ := hrow.addr (by rw [hrow.len]; omega)
      have e0 := hrow.get k _ (by8_get xs k hlt)
      have hst := hexOf_step xs k hlt
      generalize xs.getD k 0 = x at e0 hst
      have hxl := x.toNat_lt
      have c1 : (x.toNat : Int).tdiv 16 = ((x.toNat / 16 : Nat) : Int) := by rw [Int.tdiv_eq_ediv_of_nonneg (by omega)]; omega
      have c2 : (x.toNat : Int).tmod 16 = ((x.toNat % 16 : Nat) : Int) := by rw [Int.tmod_eq_emod_of_nonneg (by omega)]; omega
      have i1 := rdig (x.toNat / 16) (by omega)
      have i2 := rdig (x.toNat % 16) (by omega)
      have b1 : x.toNat / 16 < 16 := by omega
      have b2 : x.toNat % 16 < 16 := by omega
      have HM : Hid (strOf L ++ (strOf [dig (x.toNat / 16)] ++ strOf [dig (x.toNat % 16)]) = strOf (hexOf (xs.take (k + 1)))) := by
        unfold Hid; rw [← hst, ← hL.out, strOf_append]; rw [← strOf_append]; rfl
      have hLl : L.length ≤ 2 * xs.length := by rw [hL.out, hexOf_length, List.length_take]; omega
      clear hst hL
      generalize x.toNat / 16 = p at c1 i1 b1 HM
      generalize x.toNat % 16 = q at c2 i2 b2 HM
      have w1 : IntKind.u8.wrap (p : Int) = (p : Int) := IntWalk.u8_in _ (by omega)
      have w2 : IntKind.u8.wrap ((p : Int) + 1) = (p : Int) + 1 := IntWalk.u8_in _ (by omega)
      have w3 : IntKind.u8.wrap (q : Int) = (q : Int) := IntWalk.u8_in _ (by omega)
      have w4 : IntKind.u8.wrap ((q : Int) + 1) = (q : Int) + 1 := IntWalk.u8_in _ (by omega)
      have z1 : (strOf [dig p]).size + (strOf [dig q]).size ≤ 9223372036854775807 := by rw [strOf_size, strOf_size]; simp
      have z2 : (strOf L).size + (strOf [dig p] ++ strOf [dig q]).size ≤ 9223372036854775807 := by rw [← strOf_append, strOf_size, strOf_size]; simp; omega
      go_wp2_with fail
      go_quiet (fail)
      rw [HM.out]
      go_wp2
      go_roundw
      case rel => exact ⟨k + 1, by omega, rfl, _, rfl, rfl, _, rfl⟩
      case measure => simp [intOf] <;> omega
    · have hkl : k = xs.length := by omega
      rw [hkl, List.take_length] at hL
      go_wp2_with fail
      go_ret
      exact ⟨by rw [hL.out]; rfl, n, rfl⟩
end Go.Proofs.Ytfliddlcbnaoiaa
