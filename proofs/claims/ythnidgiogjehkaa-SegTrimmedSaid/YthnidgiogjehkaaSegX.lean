/- Walks: chksum.fold, chksum.Turn, the reference's add and Turn. Walks: chksum.Sum. Walks: the reference's add, Sum and Turn. Walks: chksum.Check, the laws' long and alive. Walks: chksum.Load, chksum.Good. Walk: the reference's pseudo header. -/
import Derived.Test.YthnidgiogjehkaaProg
import Derived.Test.YthnidgiogjehkaaPlainSum
import Derived.WalkKit
import Derived.WalkSpells
import Derived.WalkLawsBesides
import Derived.Test.YthnidgiogjehkaaU8
import Derived.BigQuiet
import Derived.Deep.QuietTactic
import Derived.Test.YthnidgiogjehkaaAdr
import Derived.Deep.RegionHeld3
namespace Go.Proofs.Ythnidgiogjehkaa
set_option linter.unusedVariables false
set_option linter.unusedSimpArgs false
set_option maxRecDepth 20000
open Go.RowKit

set_option maxHeartbeats 400000 in
theorem fold_any (n : Int) (w : World) (h0 : 0 ≤ n) (h1 : n < 18446744073709551616) :
    Calls Try.prog 74 #[.int .u64 n] w fun e w' => e = .returned (.int .u16 (foldS n)) ∧ w' = w := by
  go_enter Try.func74, Try.ntmps74
  go_wp2
  go_loop [0] (fun t => ∃ k : Int, 0 ≤ k ∧ k < 18446744073709551616 ∧ Hid (foldS k = foldS n) ∧ t = .int .u64 k) (fun t => (intOf t).toNat)
  case atStart => exact ⟨n, h0, h1, rfl, rfl⟩
  case round =>
    obtain ⟨k, hk0, hk1, hk, rfl⟩ := hrel
    by_cases hlt : 65535 < k
    · have hm := and_low16 k hk0 hk1
      have hd : decide (65535 < k) = true := by simpa using hlt
      go_wp2
      go_round
      case rel => exact ⟨k % 65536 + k / 65536, by omega, by omega, (foldS_step hlt).trans hk, rfl⟩
      case measure => simp [intOf]; omega
    · have hd : decide (65535 < k) = false := by simpa using hlt
      go_wp2
      go_ret
      refine ⟨?_, rfl⟩
      show Ending.returned (.int .u16 k) = _
      rw [← hk.out, foldS_small hk0 (by omega)]

theorem xor_u16 (n : Int) (h0 : 0 ≤ n) (h1 : n ≤ 65535) : bits .xor .u16 IntKind.u16.max n = 65535 - n := by
  show bits .xor .u16 65535 n = 65535 - n
  obtain ⟨m, rfl⟩ := Int.eq_ofNat_of_zero_le h0
  have hm : m < 2 ^ 16 := by omega
  rw [show (65535 : Int) = ((65535 : Nat) : Int) from rfl, u16_xor_nat 65535 m (by omega) (by omega)]
  have : 65535 ^^^ m = 65535 - m := by
    have h := congrArg BitVec.toNat (BitVec.allOnes_xor (x := BitVec.ofNat 16 m))
    rw [BitVec.toNat_xor, BitVec.toNat_not, BitVec.toNat_ofNat, BitVec.toNat_allOnes, Nat.mod_eq_of_lt hm] at h
    exact h
  rw [this]; omega

end Go.Proofs.Ythnidgiogjehkaa
namespace Go.Proofs.Ythnidgiogjehkaa
set_option linter.unusedVariables false
set_option linter.unusedSimpArgs false
set_option maxRecDepth 20000
open Go.RowKit

set_option maxHeartbeats 400000 in
theorem sum_any (v : Value) (pp : List (List UInt8)) (w : World) (hr : RBB w v pp) (hb : btot pp ≤ 1000000) :
    Calls Try.prog 61 #[v] w fun e w' => e = .returned (.int .u16 (foldS (wtot pp))) ∧ ∃ n, w' = w.drewN n := by
  obtain ⟨A, c, vs, rfl, hrow, hel⟩ := hr
  obtain ⟨i0, hi0, hz0, hz1, hz2⟩ := info_parts info_u8
  have htop := hrow.top
  have hcap := hrow.cap
  go_enter Try.func61, Try.ntmps61
  go_wp2
  go_loopw [3, 8] (fun n i wr => ∃ k : Nat, k ≤ pp.length ∧ i = .int .i64 k ∧ (∃ m : Int, n = .int .u64 m ∧ 0 ≤ m ∧ Hid (m + wtot (pp.drop k) = wtot pp)) ∧ ∃ d, wr = w.drewN d) (fun _ i _ => pp.length - (intOf i).toNat)
  case atStart => exact ⟨0, Nat.zero_le _, rfl, ⟨0, rfl, by omega, by unfold Hid; simp⟩, 0, rfl⟩
  case round =>
    obtain ⟨k, hk, rfl, ⟨m, rfl, hm0, hm⟩, d, rfl⟩ := hrel
    by_cases hlt : k < pp.length
    · have hg : pp[k]? = some (pp.getD k []) := by simp [List.getD_eq_getElem?_getD, List.getElem?_eq_getElem hlt]
      have hwt := wtot_drop pp k hlt
      have hbt : (pp.getD k []).length ≤ 1000000 := by
        have h1 := btot_drop pp k hlt
        have h2 := btot_take pp k
        omega
      generalize pp.getD k [] = xs at hg hwt hbt
      obtain ⟨u, hu, A1, c1, rfl, hrow1⟩ := hel k xs hg
      obtain ⟨ad, rfl⟩ := hrow.addr (by rw [hrow.len]; omega)
      have hcell := hrow.get k _ hu
      have hrr := wtot_range (pp.drop (k + 1))
      have hwr := wtot_range pp
      have hm' : Hid (m + wsum xs + wtot (pp.drop (k + 1)) = wtot pp) := by have := hm.out; unfold Hid; omega
      clear hu hg hwt hm hel hrow
      go_wp2
      go_loopw [3, 5] (fun n b wr => ∃ (ys : List UInt8) (A2 : Option Addr) (c2 : Nat), b = .slice A2 ys.length c2 ∧ Row w 1 A2 ys.length c2 (by8 ys) ∧ ys.length ≤ 1000000 ∧
        (∃ q : Int, n = .int .u64 q ∧ 0 ≤ q ∧ Hid (q + wsum ys = m + wsum xs)) ∧ ∃ d, wr = w.drewN d) (fun _ b _ => lenV b)
      case atStart => exact ⟨xs, A1, c1, rfl, hrow1, hbt, ⟨m, rfl, hm0, rfl⟩, d, rfl⟩
      case round =>
        obtain ⟨ys, A2, c2, rfl, hrow2, hyl, ⟨q, rfl, hq0, hq⟩, d2, rfl⟩ := hrel
        have hc2 := hrow2.cap
        have ht2 := hrow2.top
        by_cases h1 : 1 < ys.length
        · obtain ⟨ad2, rfl⟩ := hrow2.addr (by rw [hrow2.len]; omega)
          have e0 := hrow2.get 0 _ (by8_get ys 0 (by omega))
          have e1 := hrow2.lit 1 _ (by omega) (by8_get ys 1 (by omega))
          rw [add_zero'] at e0
          have hcut := slice_from (P := Try.prog) 32 5 .i64 Try.underlying32 hi0 1 hz1 (some ad2) ys.length c2 2 h1
          have hrow3 := hrow2.drop (k := 2) h1
          have hw2 := wsum_drop2 ys h1
          generalize ys.getD 0 0 = x0 at e0 hw2
          generalize ys.getD 1 0 = x1 at e1 hw2
          have hl3 : (ys.drop 2).length = ys.length - 2 := by simp
          have hq3 : Hid (q + ((x0.toNat : Int) * 256 + x1.toNat) + wsum (ys.drop 2) = m + wsum xs) := by have := hq.out; unfold Hid; omega
          have hv3 := word_val q x0 x1 hq0 (by have := hq.out; have := hm'.out; have := wsum_range ys; omega)
          have HR : Hid (Row w 1 (if c2 = 2 then some ad2 else (some ad2 : Option Addr).map (·.add (2 * 1))) (ys.drop 2).length (c2 - 2) (by8 (ys.drop 2))) := by
            unfold Hid; rw [hl3, ← by8_drop]; exact hrow3
          have HV := hid hv3
          have HL := hid hl3
          clear hw2 hrow3 hrow2 hq hv3 hl3
          have b0 : 0 < ys.length := by omega
          have b1 : (1 : Int) < (ys.length : Int) := by omega
          go_wp2
          go_quiet (fail)
          go_wp2
          go_roundw
          case rel => exact ⟨ys.drop 2, _, _, by rw [HL.out]; rfl, HR.out, by rw [HL.out]; omega, ⟨_, by rw [HV.out], by omega, hq3⟩, _, rfl⟩
          case measure => simp [lenV]; omega
        · by_cases h2 : ys.length = 1
          · obtain ⟨ad2, rfl⟩ := hrow2.addr (by rw [hrow2.len]; omega)
            have e0 := hrow2.get 0 _ (by8_get ys 0 (by omega))
            rw [add_zero'] at e0
            have hw2 := wsum_one ys h2
            generalize ys.getD 0 0 = x0 at e0 hw2
            have r0 := x0.toNat_lt
            have hq3 : Hid (q + ((x0.toNat : Int) * 256) + wtot (pp.drop (k + 1)) = wtot pp) := by have := hq.out; have := hm'.out; unfold Hid; omega
            have hq4 : q + ((x0.toNat : Int) * 256) ≤ 9223372036854775807 := by have := hq3.out; omega
            have b0 : 0 < ys.length := by omega
            have b1 : decide (1 < ys.length) = false := by simpa using h1
            have b2 : ((ys.length : Int) == 1) = true := by rw [h2]; rfl
            clear hw2 hq hm' h2 hrow2
            go_wp2
            go_roundw
            case rel => exact ⟨k + 1, by omega, by go_num, ⟨_, rfl, by omega, hq3⟩, _, rfl⟩
            case measure => simp [intOf]; omega
          · have h0 : ys = [] := List.eq_nil_of_length_eq_zero (by omega)
            subst h0
            have hq3 : Hid (q + wtot (pp.drop (k + 1)) = wtot pp) := by have h3 := hq.out; have := hm'.out; simp only [wsum] at h3; unfold Hid; omega
            clear hq hm' h2 h1 hrow2
            simp only [List.length_nil]
            go_wp2
            go_roundw
            case rel => exact ⟨k + 1, by omega, by go_num, ⟨_, rfl, by omega, hq3⟩, _, rfl⟩
            case measure => simp [intOf]; omega
    · obtain rfl : k = pp.length := by omega
      have hm2 : m = wtot pp := by have := hm.out; simpa [wtot] using this
      subst hm2
      have hwr := wtot_range pp
      clear hm
      have hd : decide (pp.length < pp.length) = false := by simp
      go_wp2_with (go_at_call 74; refine (fold_any _ _ (by omega) (by omega)).mono ?_; rintro e w' ⟨rfl, rfl⟩)
      go_ret
      exact ⟨rfl, _, rfl⟩
end Go.Proofs.Ythnidgiogjehkaa
namespace Go.Proofs.Ythnidgiogjehkaa
set_option linter.unusedVariables false
set_option linter.unusedSimpArgs false
set_option maxRecDepth 20000
open Go.RowKit

set_option maxHeartbeats 400000 in
theorem radd_any (a b : Int) (w : World) (a0 : 0 ≤ a) (a1 : a ≤ 65535) (b0 : 0 ≤ b) (b1 : b ≤ 65535) :
    Calls Try.prog 69 #[.int .u16 a, .int .u16 b] w fun e w' => e = .returned (.int .u16 (foldS (a + b))) ∧ w = w' := by
  by_cases h : 65535 < a + b
  · have hf := foldS_over a0 a1 b0 b1 h
    have hd : decide (65535 < a + b) = true := by simpa using h
    have HF := hid hf
    clear hf
    go_enter Try.func69, Try.ntmps69
    go_wp2
    go_ret
    refine ⟨?_, rfl⟩
    rw [HF.out]
    exact ret_int (by omega)
  · have hf := foldS_small (n := a + b) (by omega) (by omega)
    have hd : decide (65535 < a + b) = false := by simpa using h
    have HF := hid hf
    clear hf
    go_enter Try.func69, Try.ntmps69
    go_wp2
    go_ret
    refine ⟨?_, rfl⟩
    rw [HF.out]
    rfl

set_option maxHeartbeats 800000 in
theorem rsum_any (v : Value) (pp : List (List UInt8)) (w : World) (hr : RBB w v pp) (hb : btot pp ≤ 1000000) :
    Calls Try.prog 43 #[v] w fun e w' => e = .returned (.int .u16 (foldS (wtot pp))) ∧ w = w' := by
  obtain ⟨A, c, vs, rfl, hrow, hel⟩ := hr
  have htop := hrow.top
  have hcap := hrow.cap
  go_enter Try.func43, Try.ntmps43
  go_wp2
  go_loop [3, 4] (fun n i => ∃ k : Nat, k ≤ pp.length ∧ i = .int .i64 k ∧ (∃ m : Int, n = .int .u16 m ∧ 0 ≤ m ∧ m ≤ 65535 ∧ Hid (foldS (m + wtot (pp.drop k)) = foldS (wtot pp)))) (fun _ i => pp.length - (intOf i).toNat)
  case atStart => exact ⟨0, Nat.zero_le _, rfl, 0, rfl, by omega, by omega, by unfold Hid; simp⟩
  case round =>
    obtain ⟨k, hk, rfl, m, rfl, hm0, hm1, hm⟩ := hrel
    by_cases hlt : k < pp.length
    · have hg : pp[k]? = some (pp.getD k []) := by simp [List.getD_eq_getElem?_getD, List.getElem?_eq_getElem hlt]
      have hwt := wtot_drop pp k hlt
      have hbt : (pp.getD k []).length ≤ 1000000 := by
        have h1 := btot_drop pp k hlt
        have h2 := btot_take pp k
        omega
      generalize pp.getD k [] = xs at hg hwt hbt
      obtain ⟨u, hu, A1, c1, rfl, hrow1⟩ := hel k xs hg
      obtain ⟨ad, rfl⟩ := hrow.addr (by rw [hrow.len]; omega)
      have hcell := hrow.get k _ hu
      have hrr := wtot_range (pp.drop (k + 1))
      have hwr := wsum_range xs
      have HM : Hid (foldS (m + wsum xs + wtot (pp.drop (k + 1))) = foldS (wtot pp)) := by have := hm.out; unfold Hid; rw [hwt, ← Int.add_assoc] at this; exact this
      have ht1 := hrow1.top
      have hc1 := hrow1.cap
      clear hu hg hwt hm hel hrow
      go_wp2
      go_loop [3, 6] (fun n j => ∃ h : Nat, h ≤ xs.length + 1 ∧ j = .int .i64 h ∧ (∃ q : Int, n = .int .u16 q ∧ 0 ≤ q ∧ q ≤ 65535 ∧ Hid (foldS (q + wsum (xs.drop h)) = foldS (m + wsum xs)))) (fun _ j => xs.length + 1 - (intOf j).toNat)
      case atStart => exact ⟨0, Nat.zero_le _, rfl, m, rfl, hm0, hm1, by unfold Hid; simp⟩
      case round =>
        obtain ⟨h, hh, rfl, q, rfl, hq0, hq1, hq⟩ := hrel
        by_cases h1 : h < xs.length
        · obtain ⟨ad1, rfl⟩ := hrow1.addr (by rw [hrow1.len]; omega)
          have e0 := hrow1.get h _ (by8_get xs h h1)
          by_cases h2 : h + 1 < xs.length
          · have e1 := hrow1.lit (h + 1) _ (by omega) (by8_get xs (h + 1) h2)
            have hw := wsum_at xs h h2
            generalize xs.getD h 0 = x0 at e0 hw
            generalize xs.getD (h + 1) 0 = x1 at e1 hw
            have hs2 := wsum_range (xs.drop (h + 2))
            have r0 := x0.toNat_lt
            have r1 := x1.toNat_lt
            have hfr := foldS_range (q + ((x0.toNat : Int) * 256 + x1.toNat))
            have HQ : Hid (foldS (foldS (q + ((x0.toNat : Int) * 256 + x1.toNat)) + wsum (xs.drop (h + 2))) = foldS (m + wsum xs)) := by
              unfold Hid; rw [foldS_keep hq0 (by omega) hs2.1, ← hw]; exact hq.out
            clear hw hq hrow1
            go_wp2_with (go_at_call 69; refine (radd_any _ _ _ (by omega) (by omega) (by omega) (by omega)).mono ?_; rintro e w' ⟨rfl, rfl⟩)
            go_round
            case rel => exact ⟨h + 2, by omega, by go_num, _, rfl, hfr.1, hfr.2, HQ⟩
            case measure => simp [intOf]; omega
          · have hw := wsum_last xs h (by omega)
            generalize xs.getD h 0 = x0 at e0 hw
            have r0 := x0.toNat_lt
            have hfr := foldS_range (q + ((x0.toNat : Int) * 256))
            have HQ : Hid (foldS (foldS (q + ((x0.toNat : Int) * 256)) + wsum (xs.drop (h + 2))) = foldS (m + wsum xs)) := by
              have h0 : xs.drop (h + 2) = [] := List.drop_eq_nil_of_le (by omega)
              unfold Hid; rw [h0]; simp only [wsum]; rw [foldS_keep hq0 (by omega) (by omega), Int.add_zero, ← hw]; exact hq.out
            have hd : decide ((h : Int) + 1 < (xs.length : Int)) = false := by simp; omega
            have hd2 : decide (h + 1 < xs.length) = false := by simp; omega
            clear hw hq hrow1
            go_wp2_with (go_at_call 69; refine (radd_any _ _ _ (by omega) (by omega) (by omega) (by omega)).mono ?_; rintro e w' ⟨rfl, rfl⟩)
            go_round
            case rel => exact ⟨h + 2, by omega, by go_num, _, rfl, hfr.1, hfr.2, HQ⟩
            case measure => simp [intOf]; omega
        · have h0 : xs.drop h = [] := List.drop_eq_nil_of_le (by omega)
          have HQ : Hid (foldS (q + wtot (pp.drop (k + 1))) = foldS (wtot pp)) := by
            have h3 := hq.out
            rw [h0] at h3; simp only [wsum, Int.add_zero] at h3
            unfold Hid; rw [← HM.out, ← foldS_add (a := m + wsum xs) (by omega) hrr.1, ← h3, foldS_add hq0 hrr.1]
          clear hq HM h0
          go_wp2
          go_round
          case rel => exact ⟨k + 1, by omega, by go_num, _, rfl, hq0, hq1, HQ⟩
          case measure => simp [intOf]; omega
    · obtain rfl : k = pp.length := by omega
      have hm2 : foldS (wtot pp) = m := by
        have := hm.out
        rw [List.drop_length, wtot_nil, Int.add_zero, foldS_small hm0 hm1] at this
        exact this.symm
      have HM := hid hm2
      clear hm hm2
      go_wp2
      go_ret
      refine ⟨?_, rfl⟩
      rw [HM.out]
      rfl
end Go.Proofs.Ythnidgiogjehkaa
namespace Go.Proofs.Ythnidgiogjehkaa
set_option linter.unusedVariables false
set_option linter.unusedSimpArgs false
set_option maxRecDepth 20000
open Go.RowKit

set_option maxHeartbeats 400000 in
theorem check_any (v : Value) (pp : List (List UInt8)) (w : World) (hr : RBB w v pp) (hb : btot pp ≤ 1000000) :
    Calls Try.prog 54 #[v] w fun e w' => e = .returned (.int .u16 (65535 - foldS (wtot pp))) ∧ ∃ n, w' = w.drewN n := by
  have h := foldS_range (wtot pp)
  have hs : IntKind.u16.signed = false := rfl
  have hx := xor_u16 (foldS (wtot pp)) h.1 h.2
  go_enter Try.func54, Try.ntmps54
  go_wp2_with (go_at_call 61; refine (sum_any _ pp _ hr hb).mono ?_; rintro e w' ⟨rfl, n, rfl⟩)
  go_ret
  exact ⟨rfl, n, rfl⟩

/-- Any int brought into 0 .. h - 1, as the laws do. -/
theorem modBack (a : Int) (h : Int) (h0 : 0 < h) : ∃ j : Nat, (j : Int) < h ∧ (a.tmod h + h) % h = j ∧ -h < a.tmod h ∧ a.tmod h < h := by
  have h1 := Int.tmod_lt_of_pos a h0
  have h2 : -h < a.tmod h := by
    rcases Int.le_total 0 a with ha | ha
    · have := Int.tmod_nonneg h ha; omega
    · have h3 : (-a).tmod h < h := Int.tmod_lt_of_pos _ h0
      rw [Int.neg_tmod] at h3; omega
  have h3 := Int.emod_nonneg (a.tmod h + h) (by omega : h ≠ 0)
  have h4 := Int.emod_lt_of_pos (a.tmod h + h) h0
  exact ⟨((a.tmod h + h) % h).toNat, by omega, by omega, h2, h1⟩

end Go.Proofs.Ythnidgiogjehkaa
namespace Go.Proofs.Ythnidgiogjehkaa
set_option linter.unusedVariables false
set_option linter.unusedSimpArgs false
set_option maxRecDepth 20000
open Go.RowKit

theorem btot2 (a b : List UInt8) (n : Nat) (ha : a.length ≤ 40) (hb : b.length ≤ n) (hn : n ≤ 900000) : btot [a, b] ≤ 1000000 := by simp [btot]; omega

set_option maxHeartbeats 800000 in
theorem load_any (s d : Adr) (p : UInt8) (v : Value) (xs : List UInt8) (w : World) (hx : RB w v xs) (hl : xs.length ≤ 900000) :
    Calls Try.prog 31 #[.agg s.cells, .agg d.cells, .int .u8 (p.toNat : Int), v] w fun e w' => e = .returned (.int .u16 (65535 - foldS (wtot [pseudoS s d p xs.length, xs]))) ∧ Below w.heap.size w w' := by
  have hx0 := hx
  obtain ⟨A, c, rfl, hrow⟩ := hx
  have hcap := hrow.cap
  have htop := hrow.top
  have hpl := pseudoS_len s d p xs.length
  generalize hps : pseudoS s d p xs.length = ps at hpl ⊢
  have HPS := hid hps
  clear hps
  go_enter Try.func31, Try.ntmps31
  go_wp2_with (first
    | refine wpList_load_row rfl 24 (.tmp 4) rfl w.heap.size rfl 24 s.cells (0, 0) _ (heap_alloc2_old w _ _) Try.underlying24 rfl (info_addr s) ?_
    | refine wpList_load_row rfl 24 (.tmp 5) rfl (w.heap.size + 1) rfl 24 d.cells (0, 0) _ (heap_alloc2_new w _ _) Try.underlying24 rfl (info_addr d) ?_)
  refine (pseudo_any s d p xs.length _ (by omega)).mono ?_
  rw [HPS.out]
  rintro e w1 ⟨A1, c1, rfl, ho1, hb1⟩
  have HB1 := below_after (below_alloc (below_alloc (Below.refl w.heap.size w) _ (Nat.le_refl _)) _ (Nat.le_refl _)) hb1 (Nat.le_refl _)
  go_wp2_with fail
  refine (check_any _ [ps, xs] _ (RBB.new2 _ _ _ _ _ _ _ rfl ho1.rb (hx0.below HB1)) (btot2 _ _ _ hpl hl (by omega))).mono ?_
  rintro e w2 ⟨rfl, n2, rfl⟩
  go_wp2_with fail
  go_ret
  exact ⟨rfl, below_drewN (below_alloc HB1 _ (Nat.le_refl _)) _⟩

set_option maxHeartbeats 800000 in
theorem good_any (s d : Adr) (p : UInt8) (v : Value) (xs : List UInt8) (w : World) (hx : RB w v xs) (hl : xs.length ≤ 900000) :
    Calls Try.prog 39 #[.agg s.cells, .agg d.cells, .int .u8 (p.toNat : Int), v] w fun e w' => e = .returned (.bool (foldS (wtot [pseudoS s d p xs.length, xs]) == 65535)) ∧ Below w.heap.size w w' := by
  have hx0 := hx
  obtain ⟨A, c, rfl, hrow⟩ := hx
  have hcap := hrow.cap
  have htop := hrow.top
  have hpl := pseudoS_len s d p xs.length
  generalize hps : pseudoS s d p xs.length = ps at hpl ⊢
  have HPS := hid hps
  clear hps
  go_enter Try.func39, Try.ntmps39
  go_wp2_with (first
    | refine wpList_load_row rfl 24 (.tmp 4) rfl w.heap.size rfl 24 s.cells (0, 0) _ (heap_alloc2_old w _ _) Try.underlying24 rfl (info_addr s) ?_
    | refine wpList_load_row rfl 24 (.tmp 5) rfl (w.heap.size + 1) rfl 24 d.cells (0, 0) _ (heap_alloc2_new w _ _) Try.underlying24 rfl (info_addr d) ?_)
  refine (pseudo_any s d p xs.length _ (by omega)).mono ?_
  rw [HPS.out]
  rintro e w1 ⟨A1, c1, rfl, ho1, hb1⟩
  have HB1 := below_after (below_alloc (below_alloc (Below.refl w.heap.size w) _ (Nat.le_refl _)) _ (Nat.le_refl _)) hb1 (Nat.le_refl _)
  go_wp2_with fail
  refine (sum_any _ [ps, xs] _ (RBB.new2 _ _ _ _ _ _ _ rfl ho1.rb (hx0.below HB1)) (btot2 _ _ _ hpl hl (by omega))).mono ?_
  generalize hS : foldS (wtot [ps, xs]) = S
  have HS := hid hS
  clear hS
  rintro e w2 ⟨rfl, n2, rfl⟩
  go_wp2_with fail
  go_ret
  exact ⟨by rw [HS.out]; rfl, below_drewN (below_alloc HB1 _ (Nat.le_refl _)) _⟩
end Go.Proofs.Ythnidgiogjehkaa
namespace Go.Proofs.Ythnidgiogjehkaa
set_option linter.unusedVariables false
set_option linter.unusedSimpArgs false
set_option maxRecDepth 20000
open Go.RowKit

set_option maxHeartbeats 1000000 in
theorem rpseudo_tt (s d : Adr) (p : UInt8) (size : Nat) (w : World) (hs : size ≤ 4294967295) (h1 : s.six = true) (h2 : d.six = true) :
    Calls Try.prog 44 #[s.val, d.val, .int .u8 (p.toNat : Int), .int .i64 (size : Int)] w fun e w' => ∃ A c, e = .returned (.slice A (pseudoS s d p size).length c) ∧ OB w' w.heap.size (.slice A (pseudoS s d p size).length c) (pseudoS s d p size) ∧ Below w.heap.size w w' := by
  have hp : pseudoS s d p size = s.bytes ++ d.bytes ++ [UInt8.ofNat (size / 16777216), UInt8.ofNat (size / 65536), UInt8.ofNat (size / 256), UInt8.ofNat size, 0, 0, 0, p] := by unfold pseudoS; simp [h1, h2]
  unfold Adr.val Adr.cells
  go_enter Try.func44, Try.ntmps44
  have v0 := u8wrap_nat size
  have v1 : IntKind.u8.wrap ((size : Int) / 256) = ((UInt8.ofNat (size / 256)).toNat : Int) := by rw [← u8wrap_nat]; rfl
  have v2 : IntKind.u8.wrap ((size : Int) / 65536) = ((UInt8.ofNat (size / 65536)).toNat : Int) := by rw [← u8wrap_nat]; rfl
  have v3 : IntKind.u8.wrap ((size : Int) / 16777216) = ((UInt8.ofNat (size / 16777216)).toNat : Int) := by rw [← u8wrap_nat]; rfl
  obtain ⟨L, hL⟩ : ∃ L, s.bytes ++ d.bytes = L := ⟨_, rfl⟩
  have hll : L.length = 32 := by rw [← hL]; rfl
  have HL := hid hL
  have HLL := hid hll
  have HP := hid hp
  clear hL hll hp
  go_wp2_with fail
  change Code.wp _ _ _ _ ((w.alloc (.cells (s.cellsF true) 24)).alloc (.cells (d.cellsF true) 24))
  obtain ⟨W, hW, f0, f1, fb, fs⟩ := two_blocks w (.cells (s.cellsF true) 24) (.cells (d.cellsF true) 24)
  rw [← hW]
  clear hW
  have f0 : W.drew.heap[w.heap.size]? = some (.cells (s.cellsF true) 24) := f0
  have f1 : W.drew.heap[w.heap.size + 1]? = some (.cells (d.cellsF true) 24) := f1
  have fb : Below w.heap.size w W.drew := fb.drew
  have fs : W.drew.heap.size = w.heap.size + 2 := fs
  go_region_held3 (fun _ => True) (trivial)
    (first
      | (refine step_append_u8 (.tmp 19) (.tmp 21) (w.heap.size + 2) [] s.bytes s.bytes rfl rfl rfl rfl rfl (OB.nil _ _) (RB.inBlock f0 rfl (by decide : 16 ≤ 16) (by omega) (Adr.byteF s true)) (by show 0 + 16 ≤ _; omega) (Nat.le_of_eq fs.symm) ?_; intro A1 c1 W2 ho1 hb1 _ _; have fb2 := fb.trans (hb1.mono (by omega)); have fs2 : w.heap.size + 2 ≤ W2.heap.size := Nat.le_trans (Nat.le_of_eq fs.symm) hb1.size; have g1 := (hb1.block (w.heap.size + 1) (by omega)).trans f1)
      | (refine step_append_u8 (.tmp 22) (.tmp 24) (w.heap.size + 2) s.bytes d.bytes L HL.out rfl rfl rfl rfl ho1 (RB.inBlock g1 rfl (by decide : 16 ≤ 16) (by omega) (Adr.byteF d true)) (by show 16 + 16 ≤ _; omega) fs2 ?_; intro A2 c2 W3 ho2 hb2 _ _; have fb3 := fb2.trans (hb2.mono (by omega)); have fs3 : w.heap.size + 2 ≤ W3.heap.size := Nat.le_trans fs2 hb2.size)
      | fail)
  go_wp2_with (at_builtin; refine append_u8 (.tmp 26) (.tmp 39) (w.heap.size + 2) L [UInt8.ofNat (size / 16777216), UInt8.ofNat (size / 65536), UInt8.ofNat (size / 256), UInt8.ofNat size, 0, 0, 0, p] (pseudoS s d p size) (by rw [HL.out.symm, HP.out]) rfl rfl rfl rfl (ho2.alloc _) (RB.new W3 _ _ _ _ 8 rfl rfl (by omega) rfl) (by rw [HLL.out]; simp) (by simp; omega) ?_; intro A4 c4 W4 ho4 hb4 _ _)
  go_ret
  exact ⟨A4, c4, rfl, ho4.lower (by omega), fb3.trans ((below_alloc (Below.refl _ _) _ fb3.size).trans (hb4.mono (by omega)))⟩
set_option maxHeartbeats 1000000 in
theorem rpseudo_tf (s d : Adr) (p : UInt8) (size : Nat) (w : World) (hs : size ≤ 4294967295) (h1 : s.six = true) (h2 : d.six = false) :
    Calls Try.prog 44 #[s.val, d.val, .int .u8 (p.toNat : Int), .int .i64 (size : Int)] w fun e w' => ∃ A c, e = .returned (.slice A (pseudoS s d p size).length c) ∧ OB w' w.heap.size (.slice A (pseudoS s d p size).length c) (pseudoS s d p size) ∧ Below w.heap.size w w' := by
  have hp : pseudoS s d p size = s.bytes ++ d.bytes ++ [UInt8.ofNat (size / 16777216), UInt8.ofNat (size / 65536), UInt8.ofNat (size / 256), UInt8.ofNat size, 0, 0, 0, p] := by unfold pseudoS; simp [h1, h2]
  unfold Adr.val Adr.cells
  go_enter Try.func44, Try.ntmps44
  have v0 := u8wrap_nat size
  have v1 : IntKind.u8.wrap ((size : Int) / 256) = ((UInt8.ofNat (size / 256)).toNat : Int) := by rw [← u8wrap_nat]; rfl
  have v2 : IntKind.u8.wrap ((size : Int) / 65536) = ((UInt8.ofNat (size / 65536)).toNat : Int) := by rw [← u8wrap_nat]; rfl
  have v3 : IntKind.u8.wrap ((size : Int) / 16777216) = ((UInt8.ofNat (size / 16777216)).toNat : Int) := by rw [← u8wrap_nat]; rfl
  obtain ⟨L, hL⟩ : ∃ L, s.bytes ++ d.bytes = L := ⟨_, rfl⟩
  have hll : L.length = 32 := by rw [← hL]; rfl
  have HL := hid hL
  have HLL := hid hll
  have HP := hid hp
  clear hL hll hp
  go_wp2_with fail
  change Code.wp _ _ _ _ ((w.alloc (.cells (s.cellsF true) 24)).alloc (.cells (d.cellsF false) 24))
  obtain ⟨W, hW, f0, f1, fb, fs⟩ := two_blocks w (.cells (s.cellsF true) 24) (.cells (d.cellsF false) 24)
  rw [← hW]
  clear hW
  have f0 : W.drew.heap[w.heap.size]? = some (.cells (s.cellsF true) 24) := f0
  have f1 : W.drew.heap[w.heap.size + 1]? = some (.cells (d.cellsF false) 24) := f1
  have fb : Below w.heap.size w W.drew := fb.drew
  have fs : W.drew.heap.size = w.heap.size + 2 := fs
  go_region_held3 (fun _ => True) (trivial)
    (first
      | (refine step_append_u8 (.tmp 19) (.tmp 21) (w.heap.size + 2) [] s.bytes s.bytes rfl rfl rfl rfl rfl (OB.nil _ _) (RB.inBlock f0 rfl (by decide : 16 ≤ 16) (by omega) (Adr.byteF s true)) (by show 0 + 16 ≤ _; omega) (Nat.le_of_eq fs.symm) ?_; intro A1 c1 W2 ho1 hb1 _ _; have fb2 := fb.trans (hb1.mono (by omega)); have fs2 : w.heap.size + 2 ≤ W2.heap.size := Nat.le_trans (Nat.le_of_eq fs.symm) hb1.size; have g1 := (hb1.block (w.heap.size + 1) (by omega)).trans f1)
      | (refine step_append_u8 (.tmp 22) (.tmp 24) (w.heap.size + 2) s.bytes d.bytes L HL.out rfl rfl rfl rfl ho1 (RB.inBlock g1 rfl (by decide : 16 ≤ 16) (by omega) (Adr.byteF d false)) (by show 16 + 16 ≤ _; omega) fs2 ?_; intro A2 c2 W3 ho2 hb2 _ _; have fb3 := fb2.trans (hb2.mono (by omega)); have fs3 : w.heap.size + 2 ≤ W3.heap.size := Nat.le_trans fs2 hb2.size)
      | fail)
  go_wp2_with (at_builtin; refine append_u8 (.tmp 26) (.tmp 39) (w.heap.size + 2) L [UInt8.ofNat (size / 16777216), UInt8.ofNat (size / 65536), UInt8.ofNat (size / 256), UInt8.ofNat size, 0, 0, 0, p] (pseudoS s d p size) (by rw [HL.out.symm, HP.out]) rfl rfl rfl rfl (ho2.alloc _) (RB.new W3 _ _ _ _ 8 rfl rfl (by omega) rfl) (by rw [HLL.out]; simp) (by simp; omega) ?_; intro A4 c4 W4 ho4 hb4 _ _)
  go_ret
  exact ⟨A4, c4, rfl, ho4.lower (by omega), fb3.trans ((below_alloc (Below.refl _ _) _ fb3.size).trans (hb4.mono (by omega)))⟩
set_option maxHeartbeats 1000000 in
theorem rpseudo_ft (s d : Adr) (p : UInt8) (size : Nat) (w : World) (hs : size ≤ 4294967295) (h1 : s.six = false) (h2 : d.six = true) :
    Calls Try.prog 44 #[s.val, d.val, .int .u8 (p.toNat : Int), .int .i64 (size : Int)] w fun e w' => ∃ A c, e = .returned (.slice A (pseudoS s d p size).length c) ∧ OB w' w.heap.size (.slice A (pseudoS s d p size).length c) (pseudoS s d p size) ∧ Below w.heap.size w w' := by
  have hp : pseudoS s d p size = s.bytes ++ d.bytes ++ [UInt8.ofNat (size / 16777216), UInt8.ofNat (size / 65536), UInt8.ofNat (size / 256), UInt8.ofNat size, 0, 0, 0, p] := by unfold pseudoS; simp [h1, h2]
  unfold Adr.val Adr.cells
  go_enter Try.func44, Try.ntmps44
  have v0 := u8wrap_nat size
  have v1 : IntKind.u8.wrap ((size : Int) / 256) = ((UInt8.ofNat (size / 256)).toNat : Int) := by rw [← u8wrap_nat]; rfl
  have v2 : IntKind.u8.wrap ((size : Int) / 65536) = ((UInt8.ofNat (size / 65536)).toNat : Int) := by rw [← u8wrap_nat]; rfl
  have v3 : IntKind.u8.wrap ((size : Int) / 16777216) = ((UInt8.ofNat (size / 16777216)).toNat : Int) := by rw [← u8wrap_nat]; rfl
  obtain ⟨L, hL⟩ : ∃ L, s.bytes ++ d.bytes = L := ⟨_, rfl⟩
  have hll : L.length = 32 := by rw [← hL]; rfl
  have HL := hid hL
  have HLL := hid hll
  have HP := hid hp
  clear hL hll hp
  go_wp2_with fail
  change Code.wp _ _ _ _ ((w.alloc (.cells (s.cellsF false) 24)).alloc (.cells (d.cellsF true) 24))
  obtain ⟨W, hW, f0, f1, fb, fs⟩ := two_blocks w (.cells (s.cellsF false) 24) (.cells (d.cellsF true) 24)
  rw [← hW]
  clear hW
  have f0 : W.drew.heap[w.heap.size]? = some (.cells (s.cellsF false) 24) := f0
  have f1 : W.drew.heap[w.heap.size + 1]? = some (.cells (d.cellsF true) 24) := f1
  have fb : Below w.heap.size w W.drew := fb.drew
  have fs : W.drew.heap.size = w.heap.size + 2 := fs
  go_region_held3 (fun _ => True) (trivial)
    (first
      | (refine step_append_u8 (.tmp 19) (.tmp 21) (w.heap.size + 2) [] s.bytes s.bytes rfl rfl rfl rfl rfl (OB.nil _ _) (RB.inBlock f0 rfl (by decide : 16 ≤ 16) (by omega) (Adr.byteF s false)) (by show 0 + 16 ≤ _; omega) (Nat.le_of_eq fs.symm) ?_; intro A1 c1 W2 ho1 hb1 _ _; have fb2 := fb.trans (hb1.mono (by omega)); have fs2 : w.heap.size + 2 ≤ W2.heap.size := Nat.le_trans (Nat.le_of_eq fs.symm) hb1.size; have g1 := (hb1.block (w.heap.size + 1) (by omega)).trans f1)
      | (refine step_append_u8 (.tmp 22) (.tmp 24) (w.heap.size + 2) s.bytes d.bytes L HL.out rfl rfl rfl rfl ho1 (RB.inBlock g1 rfl (by decide : 16 ≤ 16) (by omega) (Adr.byteF d true)) (by show 16 + 16 ≤ _; omega) fs2 ?_; intro A2 c2 W3 ho2 hb2 _ _; have fb3 := fb2.trans (hb2.mono (by omega)); have fs3 : w.heap.size + 2 ≤ W3.heap.size := Nat.le_trans fs2 hb2.size)
      | fail)
  go_wp2_with (at_builtin; refine append_u8 (.tmp 26) (.tmp 39) (w.heap.size + 2) L [UInt8.ofNat (size / 16777216), UInt8.ofNat (size / 65536), UInt8.ofNat (size / 256), UInt8.ofNat size, 0, 0, 0, p] (pseudoS s d p size) (by rw [HL.out.symm, HP.out]) rfl rfl rfl rfl (ho2.alloc _) (RB.new W3 _ _ _ _ 8 rfl rfl (by omega) rfl) (by rw [HLL.out]; simp) (by simp; omega) ?_; intro A4 c4 W4 ho4 hb4 _ _)
  go_ret
  exact ⟨A4, c4, rfl, ho4.lower (by omega), fb3.trans ((below_alloc (Below.refl _ _) _ fb3.size).trans (hb4.mono (by omega)))⟩
set_option maxHeartbeats 1000000 in
theorem rpseudo_ff (s d : Adr) (p : UInt8) (size : Nat) (w : World) (hs : size ≤ 4294967295) (h1 : s.six = false) (h2 : d.six = false) :
    Calls Try.prog 44 #[s.val, d.val, .int .u8 (p.toNat : Int), .int .i64 (size : Int)] w fun e w' => ∃ A c, e = .returned (.slice A (pseudoS s d p size).length c) ∧ OB w' w.heap.size (.slice A (pseudoS s d p size).length c) (pseudoS s d p size) ∧ Below w.heap.size w w' := by
  have hp : pseudoS s d p size = s.bytes.take 4 ++ d.bytes.take 4 ++ [0, p, UInt8.ofNat (size / 256), UInt8.ofNat size] := by unfold pseudoS; simp [h1, h2]
  unfold Adr.val Adr.cells
  go_enter Try.func44, Try.ntmps44
  have v0 := u8wrap_nat size
  have v1 : IntKind.u8.wrap ((size : Int) / 256) = ((UInt8.ofNat (size / 256)).toNat : Int) := by rw [← u8wrap_nat]; rfl
  have v2 : IntKind.u8.wrap ((size : Int) / 65536) = ((UInt8.ofNat (size / 65536)).toNat : Int) := by rw [← u8wrap_nat]; rfl
  have v3 : IntKind.u8.wrap ((size : Int) / 16777216) = ((UInt8.ofNat (size / 16777216)).toNat : Int) := by rw [← u8wrap_nat]; rfl
  obtain ⟨L, hL⟩ : ∃ L, s.bytes.take 4 ++ d.bytes.take 4 = L := ⟨_, rfl⟩
  have hll : L.length = 8 := by rw [← hL]; rfl
  have HL := hid hL
  have HLL := hid hll
  have HP := hid hp
  clear hL hll hp
  go_wp2_with fail
  change Code.wp _ _ _ _ ((w.alloc (.cells (s.cellsF false) 24)).alloc (.cells (d.cellsF false) 24))
  obtain ⟨W, hW, f0, f1, fb, fs⟩ := two_blocks w (.cells (s.cellsF false) 24) (.cells (d.cellsF false) 24)
  rw [← hW]
  clear hW
  have f0 : W.drew.heap[w.heap.size]? = some (.cells (s.cellsF false) 24) := f0
  have f1 : W.drew.heap[w.heap.size + 1]? = some (.cells (d.cellsF false) 24) := f1
  have fb : Below w.heap.size w W.drew := fb.drew
  have fs : W.drew.heap.size = w.heap.size + 2 := fs
  go_region_held3 (fun _ => True) (trivial)
    (first
      | (refine step_append_u8 (.tmp 41) (.tmp 43) (w.heap.size + 2) [] (s.bytes.take 4) (s.bytes.take 4) rfl rfl rfl rfl rfl (OB.nil _ _) (RB.inBlock f0 rfl (by decide : 4 ≤ 16) (by omega) (Adr.byte4F s false)) (by show 0 + 4 ≤ _; omega) (Nat.le_of_eq fs.symm) ?_; intro A1 c1 W2 ho1 hb1 _ _; have fb2 := fb.trans (hb1.mono (by omega)); have fs2 : w.heap.size + 2 ≤ W2.heap.size := Nat.le_trans (Nat.le_of_eq fs.symm) hb1.size; have g1 := (hb1.block (w.heap.size + 1) (by omega)).trans f1)
      | (refine step_append_u8 (.tmp 44) (.tmp 46) (w.heap.size + 2) (s.bytes.take 4) (d.bytes.take 4) L HL.out rfl rfl rfl rfl ho1 (RB.inBlock g1 rfl (by decide : 4 ≤ 16) (by omega) (Adr.byte4F d false)) (by show 4 + 4 ≤ _; omega) fs2 ?_; intro A2 c2 W3 ho2 hb2 _ _; have fb3 := fb2.trans (hb2.mono (by omega)); have fs3 : w.heap.size + 2 ≤ W3.heap.size := Nat.le_trans fs2 hb2.size)
      | fail)
  go_wp2_with (at_builtin; refine append_u8 (.tmp 48) (.tmp 55) (w.heap.size + 2) L [0, p, UInt8.ofNat (size / 256), UInt8.ofNat size] (pseudoS s d p size) (by rw [HL.out.symm, HP.out]) rfl rfl rfl rfl (ho2.alloc _) (RB.new W3 _ _ _ _ 4 rfl rfl (by omega) rfl) (by rw [HLL.out]; simp) (by simp; omega) ?_; intro A4 c4 W4 ho4 hb4 _ _)
  go_ret
  exact ⟨A4, c4, rfl, ho4.lower (by omega), fb3.trans ((below_alloc (Below.refl _ _) _ fb3.size).trans (hb4.mono (by omega)))⟩

theorem rpseudo_any (s d : Adr) (p : UInt8) (size : Nat) (w : World) (hs : size ≤ 4294967295) :
    Calls Try.prog 44 #[.agg s.cells, .agg d.cells, .int .u8 (p.toNat : Int), .int .i64 (size : Int)] w fun e w' => ∃ A c, e = .returned (.slice A (pseudoS s d p size).length c) ∧ OB w' w.heap.size (.slice A (pseudoS s d p size).length c) (pseudoS s d p size) ∧ Below w.heap.size w w' := by
  cases h1 : s.six <;> cases h2 : d.six
  · exact rpseudo_ff s d p size w hs h1 h2
  · exact rpseudo_ft s d p size w hs h1 h2
  · exact rpseudo_tf s d p size w hs h1 h2
  · exact rpseudo_tt s d p size w hs h1 h2
end Go.Proofs.Ythnidgiogjehkaa
