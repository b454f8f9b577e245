/- Walk: Hole. -/
import Derived.Test.YtkflolbphiffbaaSackP
import Derived.Deep.DeepCutAuto
import Derived.Deep.QuietTactic
import Derived.BigQuiet
namespace Go.Proofs.Ytkflolbphiffbaa
set_option linter.unusedVariables false
set_option linter.unusedSimpArgs false
open Go.RowKit

def holeR : List (Nat × Nat) → Nat → Nat → Nat → Option (Nat × Nat)
  | [], _, _, _ => none
  | x :: xs, k, e, m => if e ≤ x.1 then none else if k < x.1 then some (k, min (x.1 - k) m) else holeR xs (max k x.2) e m
def holeS (f : Nat) (rs : List (Nat × Nat)) (a n : Nat) (m : Int) : Option (Nat × Nat) :=
  if m < 1 then none else holeR rs (if 65536 ≤ aheadS f a then 0 else aheadS f a) (min (aheadS f n) 65536) m.toNat
def holeV (f : Nat) : Option (Nat × Nat) → Value
  | none => .tuple #[.int .u32 0, .int .i64 0, .bool false]
  | some q => .tuple #[.int .u32 (((f + q.1) % 4294967296 : Nat) : Int), .int .i64 (q.2 : Int), .bool true]
theorem holeR_drop (rs : List (Nat × Nat)) (j k e m : Nat) (h : j < rs.length) : holeR (rs.drop j) k e m =
    if e ≤ (rs.getD j (0, 0)).1 then none else if k < (rs.getD j (0, 0)).1 then some (k, min ((rs.getD j (0, 0)).1 - k) m) else holeR (rs.drop (j + 1)) (max k (rs.getD j (0, 0)).2) e m := by
  rw [List.drop_eq_getElem_cons h]
  have e1 : rs.getD j (0, 0) = rs[j] := by simp [List.getD_eq_getElem?_getD, List.getElem?_eq_getElem h]
  rw [e1]
  rfl
set_option maxRecDepth 100000 in
set_option maxHeartbeats 4000000 in
theorem hole_any (g f : Nat) (rs : List (Nat × Nat)) (a n : Nat) (m : Int) (w : World) (h : Brd w g f rs) (hr : OkR rs) (hf : f < 4294967296) (ha : a < 4294967296) (hn : n < 4294967296) (hm : m ≤ 9223372036854775807) :
    Calls Try.prog 11 #[.pointer (some ⟨g, 0, none⟩), .int .u32 (a : Int), .int .u32 (n : Int), .int .i64 m] w fun e w' => e = .returned (holeV f (holeS f rs a n m)) ∧ Below w.heap.size w w' := by
  have HO := hid (ok_yes g f rs w h)
  have HA1 := hid fun W (h : Brd W g f rs) => ahead_any g f rs a W h hf ha
  have HA2 := hid fun W (h : Brd W g f rs) => ahead_any g f rs n W h hf hn
  have e1 : (a + 4294967296 - f) % 4294967296 = aheadS f a := rfl
  have e2 : (n + 4294967296 - f) % 4294967296 = aheadS f n := rfl
  rw [e1] at HA1
  rw [e2] at HA2
  have k1 : aheadS f a < 4294967296 := Nat.mod_lt _ (by decide)
  have k2 : aheadS f n < 4294967296 := Nat.mod_lt _ (by decide)
  have HBR := hid h
  have HR := hid hr
  have hlen := hr.1
  obtain ⟨r, hrr⟩ : ∃ r, r = holeV f (holeS f rs a n m) := ⟨_, rfl⟩
  rw [← hrr]
  unfold holeS at hrr
  have hgl := h.lt
  clear h hr e1 e2
  generalize aheadS f n = an at *
  generalize aheadS f a = aa at *
  by_cases hm1 : m < 1
  · have d1 : decide (m < 1) = true := decide_eq_true hm1
    rw [if_pos hm1] at hrr
    have HRR := hid hrr
    clear hrr
    go_enter Try.func11, Try.ntmps11
    go_wp2_with fail
    (with_reducible refine Calls.mono HO.out ?_)
    rintro e w' ⟨rfl, rfl⟩
    go_wp2_with fail
    go_ret3
    rw [HRR.out]
    exact ⟨rfl, Below.refl _ _⟩
  rw [if_neg hm1] at hrr
  have d1 : decide (m < 1) = false := decide_eq_false hm1
  obtain ⟨mn, hmn⟩ : ∃ mn : Nat, m.toNat = mn := ⟨_, rfl⟩
  have hmm : m = (mn : Int) := by omega
  rw [hmn] at hrr
  subst hmm
  clear hmn hm1
  by_cases h6 : 65536 ≤ aa
  · rw [if_pos h6] at hrr
    have d6 : decide ((65536 : Int) ≤ (aa : Int)) = true := decide_eq_true (by omega)
    have d6' : decide (65536 ≤ aa) = true := decide_eq_true h6
    clear h6
    by_cases h7 : an ≤ 65536
    · rw [Nat.min_eq_left (by omega)] at hrr
      have d8 : decide ((65536 : Int) < (an : Int)) = false := decide_eq_false (by omega)
      have d9 : decide ((an : Int) ≤ 65536) = true := decide_eq_true (by omega)
      have HRR := hid hrr
      have hK : 0 ≤ 65536 := by omega
      clear hrr
      obtain ⟨cf, A0, c0', c2, hrow⟩ := HBR.out.cells
      have htop := hrow.top
      have hcap := hrow.cap
      have HROW := hid hrow
      clear hrow
      go_enter Try.func11, Try.ntmps11
      go_wp2_with fail
      (with_reducible refine Calls.mono HO.out ?_)
      rintro e w' ⟨rfl, rfl⟩
      go_wp2_with fail
      (with_reducible refine Calls.mono (HA1.out _ HBR.out) ?_)
      rintro e w' ⟨rfl, rfl⟩
      go_wp2_with fail
      (with_reducible refine Calls.mono (HA2.out _ HBR.out) ?_)
      rintro e w' ⟨rfl, rfl⟩
      go_wp2_with fail
      go_loopw [11, 36] (fun q i wr => ∃ j k : Nat, j ≤ rs.length ∧ i = .int .i64 j ∧ q = .int .i64 k ∧ k ≤ 65536 ∧ Hid (holeR rs 0 an mn = holeR (rs.drop j) k an mn) ∧ Below w.heap.size w wr) (fun _ i _ => rs.length - (intOf i).toNat)
      case atStart => exact ⟨0, 0, Nat.zero_le _, rfl, rfl, hK, hid rfl, Below.refl _ _⟩
      case round =>
        obtain ⟨j, k, hj, rfl, rfl, hk, hh, hb⟩ := hrel
        by_cases hlt : j < rs.length
        · have hrow := HROW.out.below hb
          obtain ⟨a0, rfl⟩ := hrow.addr (by rw [rcs_length]; omega)
          obtain ⟨l0, l1⟩ := hrow.run j hlt
          have hg := HR.out.get j hlt
          have hd := holeR_drop rs j k an mn hlt
          rw [← hh.out] at hd
          generalize (rs.getD j (0, 0)).1 = x at *
          generalize (rs.getD j (0, 0)).2 = y at *
          have HD := hid hd
          have HB := hid hb
          have bB := HBR.out.below (below_after hb (bl1 wr (.cells #[.int .i64 (x : Int), .int .i64 (y : Int)] 51)) (Nat.le_refl _))
          obtain ⟨z1, _⟩ := bB.cells
          clear hrow hd hb hh
          by_cases hx : an ≤ x
          · have t1 : decide ((an : Int) ≤ (x : Int)) = true := decide_eq_true (by omega)
            have t1' : decide (an ≤ x) = true := decide_eq_true hx
            have HV := hid (HRR.out.trans (congrArg (holeV f) (HD.out.trans (if_pos hx))))
            clear hx z1 bB
            go_wp2_with fail
            go_ret3
            rw [HV.out]
            exact ⟨rfl, HB.out.alloc (by have := HB.out.size; omega) _⟩
          · have t1 : decide ((an : Int) ≤ (x : Int)) = false := decide_eq_false (by omega)
            have t1' : decide (an ≤ x) = false := decide_eq_false hx
            have HD2 := hid (HD.out.trans (if_neg hx))
            by_cases hkx : k < x
            · have t2 : decide ((k : Int) < (x : Int)) = true := decide_eq_true (by omega)
              have t2' : decide (k < x) = true := decide_eq_true hkx
              have HV := hid (HRR.out.trans (congrArg (holeV f) (HD2.out.trans (if_pos hkx))))
              unfold holeV at HV
              simp only at HV
              have hmin : (if (mn : Int) < (x : Int) - (k : Int) then (mn : Int) else (x : Int) - (k : Int)) = ((min (x - k) mn : Nat) : Int) := by split <;> omega
              have hfk : ((f : Int) + (k : Int)) % 4294967296 = (((f + k) % 4294967296 : Nat) : Int) := by omega
              generalize min (x - k) mn = qn at *
              generalize hfkd : (f + k) % 4294967296 = fk at *
              clear hx
              go_wp2_with fail
              go_quiet (fail)
              have hend := HB.out.alloc (by have := HB.out.size; omega) (.cells #[.int .i64 (x : Int), .int .i64 (y : Int)] 51)
              go_wp2_with fail
              go_ret3
              rw [HV.out]
              refine ⟨congrArg Ending.returned ?_, below_drewN hend nq⟩
              show Value.tuple #[.int .u32 (((f : Int) + (k : Int)) % 4294967296), .int .i64 (qn : Int), .bool true] = Value.tuple #[.int .u32 (fk : Int), .int .i64 (qn : Int), .bool true]
              rw [hfk]
            · have t2 : decide ((k : Int) < (x : Int)) = false := decide_eq_false (by omega)
              have t2' : decide (k < x) = false := decide_eq_false hkx
              have HD3 := hid (HD2.out.trans (if_neg hkx))
              obtain ⟨mk, hmk⟩ : ∃ mk, max k y = mk := ⟨_, rfl⟩
              rw [hmk] at HD3
              have HMK := hid hmk
              have hml : mk ≤ 65536 := by omega
              clear hx hkx z1 bB hmk
              go_wp2_with fail
              go_roundw
              case rel => exact ⟨j + 1, mk, by omega, by go_num, congrArg (Value.int .i64) (by have := HMK.out; split <;> omega), hml, HD3, HB.out.alloc (by have := HB.out.size; omega) _⟩
              case measure => simp [intOf]; omega
        · obtain rfl : j = rs.length := by omega
          rw [List.drop_length] at hh
          have HV := hid (HRR.out.trans (congrArg (holeV f) (hh.out.trans rfl)))
          go_wp2_with fail
          go_ret3
          rw [HV.out]
          exact ⟨rfl, hb⟩
    · rw [Nat.min_eq_right (by omega)] at hrr
      have d7 : decide ((an : Int) < 65536) = false := decide_eq_false (by omega)
      have d8 : decide ((65536 : Int) < (an : Int)) = true := decide_eq_true (by omega)
      have d9 : decide ((an : Int) ≤ 65536) = false := decide_eq_false (by omega)
      have d10 : ¬ (an : Int) ≤ 65536 := by omega
      have d11 : (65536 : Int) < (an : Int) := by omega
      clear h7
      have HRR := hid hrr
      have hK : 0 ≤ 65536 := by omega
      clear hrr
      obtain ⟨cf, A0, c0', c2, hrow⟩ := HBR.out.cells
      have htop := hrow.top
      have hcap := hrow.cap
      have HROW := hid hrow
      clear hrow
      go_enter Try.func11, Try.ntmps11
      go_wp2_with fail
      (with_reducible refine Calls.mono HO.out ?_)
      rintro e w' ⟨rfl, rfl⟩
      go_wp2_with fail
      (with_reducible refine Calls.mono (HA1.out _ HBR.out) ?_)
      rintro e w' ⟨rfl, rfl⟩
      go_wp2_with fail
      (with_reducible refine Calls.mono (HA2.out _ HBR.out) ?_)
      rintro e w' ⟨rfl, rfl⟩
      go_wp2_with fail
      go_loopw [11, 36] (fun q i wr => ∃ j k : Nat, j ≤ rs.length ∧ i = .int .i64 j ∧ q = .int .i64 k ∧ k ≤ 65536 ∧ Hid (holeR rs 0 65536 mn = holeR (rs.drop j) k 65536 mn) ∧ Below w.heap.size w wr) (fun _ i _ => rs.length - (intOf i).toNat)
      case atStart => exact ⟨0, 0, Nat.zero_le _, rfl, rfl, hK, hid rfl, Below.refl _ _⟩
      case round =>
        obtain ⟨j, k, hj, rfl, rfl, hk, hh, hb⟩ := hrel
        by_cases hlt : j < rs.length
        · have hrow := HROW.out.below hb
          obtain ⟨a0, rfl⟩ := hrow.addr (by rw [rcs_length]; omega)
          obtain ⟨l0, l1⟩ := hrow.run j hlt
          have hg := HR.out.get j hlt
          have hd := holeR_drop rs j k 65536 mn hlt
          rw [← hh.out] at hd
          generalize (rs.getD j (0, 0)).1 = x at *
          generalize (rs.getD j (0, 0)).2 = y at *
          have HD := hid hd
          have HB := hid hb
          have bB := HBR.out.below (below_after hb (bl1 wr (.cells #[.int .i64 (x : Int), .int .i64 (y : Int)] 51)) (Nat.le_refl _))
          obtain ⟨z1, _⟩ := bB.cells
          clear hrow hd hb hh
          by_cases hx : 65536 ≤ x
          · have t1 : decide ((65536 : Int) ≤ (x : Int)) = true := decide_eq_true (by omega)
            have t1' : decide (65536 ≤ x) = true := decide_eq_true hx
            have HV := hid (HRR.out.trans (congrArg (holeV f) (HD.out.trans (if_pos hx))))
            clear hx z1 bB
            go_wp2_with fail
            go_ret3
            rw [HV.out]
            exact ⟨rfl, HB.out.alloc (by have := HB.out.size; omega) _⟩
          · have t1 : decide ((65536 : Int) ≤ (x : Int)) = false := decide_eq_false (by omega)
            have t1' : decide (65536 ≤ x) = false := decide_eq_false hx
            have HD2 := hid (HD.out.trans (if_neg hx))
            by_cases hkx : k < x
            · have t2 : decide ((k : Int) < (x : Int)) = true := decide_eq_true (by omega)
              have t2' : decide (k < x) = true := decide_eq_true hkx
              have HV := hid (HRR.out.trans (congrArg (holeV f) (HD2.out.trans (if_pos hkx))))
              unfold holeV at HV
              simp only at HV
              have hmin : (if (mn : Int) < (x : Int) - (k : Int) then (mn : Int) else (x : Int) - (k : Int)) = ((min (x - k) mn : Nat) : Int) := by split <;> omega
              have hfk : ((f : Int) + (k : Int)) % 4294967296 = (((f + k) % 4294967296 : Nat) : Int) := by omega
              generalize min (x - k) mn = qn at *
              generalize hfkd : (f + k) % 4294967296 = fk at *
              clear hx
              go_wp2_with fail
              go_quiet (fail)
              have hend := HB.out.alloc (by have := HB.out.size; omega) (.cells #[.int .i64 (x : Int), .int .i64 (y : Int)] 51)
              go_wp2_with fail
              go_ret3
              rw [HV.out]
              refine ⟨congrArg Ending.returned ?_, below_drewN hend nq⟩
              show Value.tuple #[.int .u32 (((f : Int) + (k : Int)) % 4294967296), .int .i64 (qn : Int), .bool true] = Value.tuple #[.int .u32 (fk : Int), .int .i64 (qn : Int), .bool true]
              rw [hfk]
            · have t2 : decide ((k : Int) < (x : Int)) = false := decide_eq_false (by omega)
              have t2' : decide (k < x) = false := decide_eq_false hkx
              have HD3 := hid (HD2.out.trans (if_neg hkx))
              obtain ⟨mk, hmk⟩ : ∃ mk, max k y = mk := ⟨_, rfl⟩
              rw [hmk] at HD3
              have HMK := hid hmk
              have hml : mk ≤ 65536 := by omega
              clear hx hkx z1 bB hmk
              go_wp2_with fail
              go_roundw
              case rel => exact ⟨j + 1, mk, by omega, by go_num, congrArg (Value.int .i64) (by have := HMK.out; split <;> omega), hml, HD3, HB.out.alloc (by have := HB.out.size; omega) _⟩
              case measure => simp [intOf]; omega
        · obtain rfl : j = rs.length := by omega
          rw [List.drop_length] at hh
          have HV := hid (HRR.out.trans (congrArg (holeV f) (hh.out.trans rfl)))
          go_wp2_with fail
          go_ret3
          rw [HV.out]
          exact ⟨rfl, hb⟩
  · rw [if_neg h6] at hrr
    have d6 : decide ((65536 : Int) ≤ (aa : Int)) = false := decide_eq_false (by omega)
    have d6' : decide (65536 ≤ aa) = false := decide_eq_false h6
    by_cases h7 : an ≤ 65536
    · rw [Nat.min_eq_left (by omega)] at hrr
      have d8 : decide ((65536 : Int) < (an : Int)) = false := decide_eq_false (by omega)
      have d9 : decide ((an : Int) ≤ 65536) = true := decide_eq_true (by omega)
      have HRR := hid hrr
      have hK : aa ≤ 65536 := by omega
      clear hrr
      obtain ⟨cf, A0, c0', c2, hrow⟩ := HBR.out.cells
      have htop := hrow.top
      have hcap := hrow.cap
      have HROW := hid hrow
      clear hrow
      go_enter Try.func11, Try.ntmps11
      go_wp2_with fail
      (with_reducible refine Calls.mono HO.out ?_)
      rintro e w' ⟨rfl, rfl⟩
      go_wp2_with fail
      (with_reducible refine Calls.mono (HA1.out _ HBR.out) ?_)
      rintro e w' ⟨rfl, rfl⟩
      go_wp2_with fail
      (with_reducible refine Calls.mono (HA2.out _ HBR.out) ?_)
      rintro e w' ⟨rfl, rfl⟩
      go_wp2_with fail
      go_loopw [11, 36] (fun q i wr => ∃ j k : Nat, j ≤ rs.length ∧ i = .int .i64 j ∧ q = .int .i64 k ∧ k ≤ 65536 ∧ Hid (holeR rs aa an mn = holeR (rs.drop j) k an mn) ∧ Below w.heap.size w wr) (fun _ i _ => rs.length - (intOf i).toNat)
      case atStart => exact ⟨0, aa, Nat.zero_le _, rfl, rfl, hK, hid rfl, Below.refl _ _⟩
      case round =>
        obtain ⟨j, k, hj, rfl, rfl, hk, hh, hb⟩ := hrel
        by_cases hlt : j < rs.length
        · have hrow := HROW.out.below hb
          obtain ⟨a0, rfl⟩ := hrow.addr (by rw [rcs_length]; omega)
          obtain ⟨l0, l1⟩ := hrow.run j hlt
          have hg := HR.out.get j hlt
          have hd := holeR_drop rs j k an mn hlt
          rw [← hh.out] at hd
          generalize (rs.getD j (0, 0)).1 = x at *
          generalize (rs.getD j (0, 0)).2 = y at *
          have HD := hid hd
          have HB := hid hb
          have bB := HBR.out.below (below_after hb (bl1 wr (.cells #[.int .i64 (x : Int), .int .i64 (y : Int)] 51)) (Nat.le_refl _))
          obtain ⟨z1, _⟩ := bB.cells
          clear hrow hd hb hh
          by_cases hx : an ≤ x
          · have t1 : decide ((an : Int) ≤ (x : Int)) = true := decide_eq_true (by omega)
            have t1' : decide (an ≤ x) = true := decide_eq_true hx
            have HV := hid (HRR.out.trans (congrArg (holeV f) (HD.out.trans (if_pos hx))))
            clear hx z1 bB
            go_wp2_with fail
            go_ret3
            rw [HV.out]
            exact ⟨rfl, HB.out.alloc (by have := HB.out.size; omega) _⟩
          · have t1 : decide ((an : Int) ≤ (x : Int)) = false := decide_eq_false (by omega)
            have t1' : decide (an ≤ x) = false := decide_eq_false hx
            have HD2 := hid (HD.out.trans (if_neg hx))
            by_cases hkx : k < x
            · have t2 : decide ((k : Int) < (x : Int)) = true := decide_eq_true (by omega)
              have t2' : decide (k < x) = true := decide_eq_true hkx
              have HV := hid (HRR.out.trans (congrArg (holeV f) (HD2.out.trans (if_pos hkx))))
              unfold holeV at HV
              simp only at HV
              have hmin : (if (mn : Int) < (x : Int) - (k : Int) then (mn : Int) else (x : Int) - (k : Int)) = ((min (x - k) mn : Nat) : Int) := by split <;> omega
              have hfk : ((f : Int) + (k : Int)) % 4294967296 = (((f + k) % 4294967296 : Nat) : Int) := by omega
              generalize min (x - k) mn = qn at *
              generalize hfkd : (f + k) % 4294967296 = fk at *
              clear hx
              go_wp2_with fail
              go_quiet (fail)
              have hend := HB.out.alloc (by have := HB.out.size; omega) (.cells #[.int .i64 (x : Int), .int .i64 (y : Int)] 51)
              go_wp2_with fail
              go_ret3
              rw [HV.out]
              refine ⟨congrArg Ending.returned ?_, below_drewN hend nq⟩
              show Value.tuple #[.int .u32 (((f : Int) + (k : Int)) % 4294967296), .int .i64 (qn : Int), .bool true] = Value.tuple #[.int .u32 (fk : Int), .int .i64 (qn : Int), .bool true]
              rw [hfk]
            · have t2 : decide ((k : Int) < (x : Int)) = false := decide_eq_false (by omega)
              have t2' : decide (k < x) = false := decide_eq_false hkx
              have HD3 := hid (HD2.out.trans (if_neg hkx))
              obtain ⟨mk, hmk⟩ : ∃ mk, max k y = mk := ⟨_, rfl⟩
              rw [hmk] at HD3
              have HMK := hid hmk
              have hml : mk ≤ 65536 := by omega
              clear hx hkx z1 bB hmk
              go_wp2_with fail
              go_roundw
              case rel => exact ⟨j + 1, mk, by omega, by go_num, congrArg (Value.int .i64) (by have := HMK.out; split <;> omega), hml, HD3, HB.out.alloc (by have := HB.out.size; omega) _⟩
              case measure => simp [intOf]; omega
        · obtain rfl : j = rs.length := by omega
          rw [List.drop_length] at hh
          have HV := hid (HRR.out.trans (congrArg (holeV f) (hh.out.trans rfl)))
          go_wp2_with fail
          go_ret3
          rw [HV.out]
          exact ⟨rfl, hb⟩
    · rw [Nat.min_eq_right (by omega)] at hrr
      have d7 : decide ((an : Int) < 65536) = false := decide_eq_false (by omega)
      have d8 : decide ((65536 : Int) < (an : Int)) = true := decide_eq_true (by omega)
      have d9 : decide ((an : Int) ≤ 65536) = false := decide_eq_false (by omega)
      have d10 : ¬ (an : Int) ≤ 65536 := by omega
      have d11 : (65536 : Int) < (an : Int) := by omega
      clear h7
      have HRR := hid hrr
      have hK : aa ≤ 65536 := by omega
      clear hrr
      obtain ⟨cf, A0, c0', c2, hrow⟩ := HBR.out.cells
      have htop := hrow.top
      have hcap := hrow.cap
      have HROW := hid hrow
      clear hrow
      go_enter Try.func11, Try.ntmps11
      go_wp2_with fail
      (with_reducible refine Calls.mono HO.out ?_)
      rintro e w' ⟨rfl, rfl⟩
      go_wp2_with fail
      (with_reducible refine Calls.mono (HA1.out _ HBR.out) ?_)
      rintro e w' ⟨rfl, rfl⟩
      go_wp2_with fail
      (with_reducible refine Calls.mono (HA2.out _ HBR.out) ?_)
      rintro e w' ⟨rfl, rfl⟩
      go_wp2_with fail
      go_loopw [11, 36] (fun q i wr => ∃ j k : Nat, j ≤ rs.length ∧ i = .int .i64 j ∧ q = .int .i64 k ∧ k ≤ 65536 ∧ Hid (holeR rs aa 65536 mn = holeR (rs.drop j) k 65536 mn) ∧ Below w.heap.size w wr) (fun _ i _ => rs.length - (intOf i).toNat)
      case atStart => exact ⟨0, aa, Nat.zero_le _, rfl, rfl, hK, hid rfl, Below.refl _ _⟩
      case round =>
        obtain ⟨j, k, hj, rfl, rfl, hk, hh, hb⟩ := hrel
        by_cases hlt : j < rs.length
        · have hrow := HROW.out.below hb
          obtain ⟨a0, rfl⟩ := hrow.addr (by rw [rcs_length]; omega)
          obtain ⟨l0, l1⟩ := hrow.run j hlt
          have hg := HR.out.get j hlt
          have hd := holeR_drop rs j k 65536 mn hlt
          rw [← hh.out] at hd
          generalize (rs.getD j (0, 0)).1 = x at *
          generalize (rs.getD j (0, 0)).2 = y at *
          have HD := hid hd
          have HB := hid hb
          have bB := HBR.out.below (below_after hb (bl1 wr (.cells #[.int .i64 (x : Int), .int .i64 (y : Int)] 51)) (Nat.le_refl _))
          obtain ⟨z1, _⟩ := bB.cells
          clear hrow hd hb hh
          by_cases hx : 65536 ≤ x
          · have t1 : decide ((65536 : Int) ≤ (x : Int)) = true := decide_eq_true (by omega)
            have t1' : decide (65536 ≤ x) = true := decide_eq_true hx
            have HV := hid (HRR.out.trans (congrArg (holeV f) (HD.out.trans (if_pos hx))))
            clear hx z1 bB
            go_wp2_with fail
            go_ret3
            rw [HV.out]
            exact ⟨rfl, HB.out.alloc (by have := HB.out.size; omega) _⟩
          · have t1 : decide ((65536 : Int) ≤ (x : Int)) = false := decide_eq_false (by omega)
            have t1' : decide (65536 ≤ x) = false := decide_eq_false hx
            have HD2 := hid (HD.out.trans (if_neg hx))
            by_cases hkx : k < x
            · have t2 : decide ((k : Int) < (x : Int)) = true := decide_eq_true (by omega)
              have t2' : decide (k < x) = true := decide_eq_true hkx
              have HV := hid (HRR.out.trans (congrArg (holeV f) (HD2.out.trans (if_pos hkx))))
              unfold holeV at HV
              simp only at HV
              have hmin : (if (mn : Int) < (x : Int) - (k : Int) then (mn : Int) else (x : Int) - (k : Int)) = ((min (x - k) mn : Nat) : Int) := by split <;> omega
              have hfk : ((f : Int) + (k : Int)) % 4294967296 = (((f + k) % 4294967296 : Nat) : Int) := by omega
              generalize min (x - k) mn = qn at *
              generalize hfkd : (f + k) % 4294967296 = fk at *
              clear hx
              go_wp2_with fail
              go_quiet (fail)
              have hend := HB.out.alloc (by have := HB.out.size; omega) (.cells #[.int .i64 (x : Int), .int .i64 (y : Int)] 51)
              go_wp2_with fail
              go_ret3
              rw [HV.out]
              refine ⟨congrArg Ending.returned ?_, below_drewN hend nq⟩
              show Value.tuple #[.int .u32 (((f : Int) + (k : Int)) % 4294967296), .int .i64 (qn : Int), .bool true] = Value.tuple #[.int .u32 (fk : Int), .int .i64 (qn : Int), .bool true]
              rw [hfk]
            · have t2 : decide ((k : Int) < (x : Int)) = false := decide_eq_false (by omega)
              have t2' : decide (k < x) = false := decide_eq_false hkx
              have HD3 := hid (HD2.out.trans (if_neg hkx))
              obtain ⟨mk, hmk⟩ : ∃ mk, max k y = mk := ⟨_, rfl⟩
              rw [hmk] at HD3
              have HMK := hid hmk
              have hml : mk ≤ 65536 := by omega
              clear hx hkx z1 bB hmk
              go_wp2_with fail
              go_roundw
              case rel => exact ⟨j + 1, mk, by omega, by go_num, congrArg (Value.int .i64) (by have := HMK.out; split <;> omega), hml, HD3, HB.out.alloc (by have := HB.out.size; omega) _⟩
              case measure => simp [intOf]; omega
        · obtain rfl : j = rs.length := by omega
          rw [List.drop_length] at hh
          have HV := hid (HRR.out.trans (congrArg (holeV f) (hh.out.trans rfl)))
          go_wp2_with fail
          go_ret3
          rw [HV.out]
          exact ⟨rfl, hb⟩
end Go.Proofs.Ytkflolbphiffbaa
