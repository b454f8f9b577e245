/- Hex: digits as bytes. -/
import Derived.Test.YtechpojcbhnfgaaHexB
namespace Go.Proofs.Ytechpojcbhnfgaa
set_option linter.unusedVariables false
set_option linter.unusedSimpArgs false
open Go.RowKit

/-- What is read; none: it is no text of digits. -/
def unhexOf : List UInt8 → Option (List UInt8)
  | [] => some []
  | [_] => none
  | c :: d :: l => if nib c.toNat < 16 ∧ nib d.toNat < 16 then (unhexOf l).map (UInt8.ofNat (nib c.toNat * 16 + nib d.toNat) :: ·) else none
theorem unhexOf_odd : ∀ xs : List UInt8, xs.length % 2 = 1 → unhexOf xs = none
  | [], h => by simp at h
  | [_], _ => rfl
  | c :: d :: l, h => by
    have := unhexOf_odd l (by simp at h; omega)
    simp [unhexOf, this]
/-- The value of a try to read: the bytes, and the error's number. -/
def unhexV (w : World) (base : Nat) (o : Option (List UInt8)) (e : Ending) : Prop :=
  match o with
  | none => e = .returned (.tuple #[.slice none 0 0, .int .i64 3])
  | some ys => ∃ A c, e = .returned (.tuple #[.slice A ys.length c, .int .i64 0]) ∧ OB w base (.slice A ys.length c) ys
theorem strOf_get (xs : List UInt8) (k : Nat) (hk : k < xs.length) : (strOf xs)[k]'(by rw [strOf_size]; exact hk) = xs.getD k 0 := by
  show xs.toArray[k] = _
  simp [List.getD_eq_getElem?_getD, List.getElem?_eq_getElem hk]
theorem or_low4 : ∀ c d : Fin 16, bits .or .u8 ((c.val * 16 : Nat) : Int) ((d.val : Nat) : Int) = ((c.val * 16 + d.val : Nat) : Int) := by decide +kernel

theorem drop_two (xs : List UInt8) (k : Nat) (h : k + 1 < xs.length) : xs.drop k = xs.getD k 0 :: xs.getD (k + 1) 0 :: xs.drop (k + 2) := by
  rw [List.drop_eq_getElem_cons (by omega), List.drop_eq_getElem_cons (by omega)]
  simp [List.getD_eq_getElem?_getD, List.getElem?_eq_getElem h, List.getElem?_eq_getElem (show k < xs.length by omega)]
theorem drop_one (xs : List UInt8) (k : Nat) (h : k + 1 = xs.length) : ∃ x, xs.drop k = [x] := by
  refine ⟨xs[k], ?_⟩
  rw [List.drop_eq_getElem_cons (by omega), List.drop_of_length_le (by omega)]
/-- One round's law. -/
theorem unhexOf_step (xs L : List UInt8) (k : Nat) (h : 2 * k + 1 < xs.length) (hL : L.length = k ∧ unhexOf xs = (unhexOf (xs.drop (2 * k))).map (L ++ ·)) :
    (¬ (nib (xs.getD (2 * k) 0).toNat < 16 ∧ nib (xs.getD (2 * k + 1) 0).toNat < 16) → unhexOf xs = none) ∧
    ((nib (xs.getD (2 * k) 0).toNat < 16 ∧ nib (xs.getD (2 * k + 1) 0).toNat < 16) → ((L ++ [UInt8.ofNat (nib (xs.getD (2 * k) 0).toNat * 16 + nib (xs.getD (2 * k + 1) 0).toNat)]).length = k + 1 ∧
      unhexOf xs = (unhexOf (xs.drop (2 * (k + 1)))).map ((L ++ [UInt8.ofNat (nib (xs.getD (2 * k) 0).toNat * 16 + nib (xs.getD (2 * k + 1) 0).toNat)]) ++ ·))) := by
  rw [drop_two xs (2 * k) h] at hL
  refine ⟨fun hn => ?_, fun hy => ⟨by simp [hL.1], ?_⟩⟩
  · rw [hL.2, unhexOf, if_neg hn]; rfl
  · rw [hL.2, unhexOf, if_pos hy, show 2 * (k + 1) = 2 * k + 2 by omega]
    cases unhexOf (xs.drop (2 * k + 2)) <;> simp

set_option maxHeartbeats 1000000 in
theorem unhex_any (xs : List UInt8) (w : World) (hl : xs.length ≤ 1000000) :
    Calls Try.prog 22 #[.string (strOf xs)] w fun e w' => unhexV w' w.heap.size (unhexOf xs) e ∧ Below w.heap.size w w' := by
  have hsz := strOf_size xs
  go_enter Try.func22, Try.ntmps22
  go_wp2_with fail
  go_loopw [4, 5] (fun o i wr => ∃ k : Nat, 2 * k ≤ xs.length + 1 ∧ i = .int .i64 ((2 * k : Nat) : Int) ∧ ∃ (L : List UInt8) (A : Option Addr) (c : Nat), Hid (L.length = k ∧ unhexOf xs = (unhexOf (xs.drop (2 * k))).map (L ++ ·)) ∧ o = .slice A L.length c ∧ OB wr w.heap.size (.slice A L.length c) L ∧ Below w.heap.size w wr) (fun _ i _ => xs.length + 1 - (intOf i).toNat)
  case atStart => exact ⟨0, by omega, rfl, [], none, 0, ⟨rfl, by simp⟩, rfl, OB.nil _ _, Below.refl _ _⟩
  case round =>
    obtain ⟨k, hk, rfl, L, A2, c2, hL, rfl, ho, hb⟩ := hrel
    by_cases hlt : 2 * k < xs.length
    · have q1 : ((2 * k : Nat) : Int) < ((strOf xs).size : Int) := by rw [strOf_size]; omega
      by_cases hl1 : 2 * k + 1 = xs.length
      · have q2 : ((2 * k : Nat) : Int) + 1 = ((strOf xs).size : Int) := by rw [strOf_size]; omega
        obtain ⟨x, hx⟩ := drop_one xs (2 * k) hl1
        have hno : unhexOf xs = none := by rw [hL.out.2, hx]; rfl
        clear hx
        have HN := hid hno
        clear hno
        go_wp2_with fail
        go_ret2
        exact ⟨by rw [HN.out]; rfl, hb⟩
      · have q2 : ¬ (((2 * k : Nat) : Int) + 1 = ((strOf xs).size : Int)) := by rw [strOf_size]; omega
        have i1 := strOf_get xs (2 * k) hlt
        have i2 := strOf_get xs (2 * k + 1) (by omega)
        obtain ⟨x, hx⟩ : ∃ x, x = xs.getD (2 * k) 0 := ⟨_, rfl⟩
        obtain ⟨y, hy⟩ : ∃ y, y = xs.getD (2 * k + 1) 0 := ⟨_, rfl⟩
        rw [← hx] at i1
        rw [← hy] at i2
        have hst := unhexOf_step xs L k (by omega) hL.out
        rw [← hx, ← hy] at hst
        clear hx hy
        have HST := hid hst
        clear hst
        have q3 : (2 * (k : Int) + 1).toNat = 2 * k + 1 := by omega
        have hno : Hid (¬ (nib x.toNat < 16 ∧ nib y.toNat < 16) → unhexOf xs = none) := HST.out.1
        by_cases hx16 : nib x.toNat < 16
        · have hvx : nibV x = .tuple #[.int .u8 (nib x.toNat : Int), .bool true] := by unfold nibV; rw [if_pos hx16, decide_eq_true hx16]
          by_cases hy16 : nib y.toNat < 16
          · have hvy : nibV y = .tuple #[.int .u8 (nib y.toNat : Int), .bool true] := by unfold nibV; rw [if_pos hy16, decide_eq_true hy16]
            have HY := hid (HST.out.2 ⟨hx16, hy16⟩)
            have ho4 := or_low4 ⟨_, hx16⟩ ⟨_, hy16⟩
            simp only at ho4
            have hxN := nibble_any x
            have hyN := nibble_any y
            rw [hvx] at hxN
            rw [hvy] at hyN
            have HX := hid hxN
            have HYN := hid hyN
            clear hvx hvy hno HST hL hxN hyN
            have HZ : Hid ((UInt8.ofNat (nib x.toNat * 16 + nib y.toNat)).toNat = nib x.toNat * 16 + nib y.toNat) := by unfold Hid; rw [UInt8.toNat_ofNat']; omega
            generalize UInt8.ofNat (nib x.toNat * 16 + nib y.toNat) = z at HY HZ
            obtain ⟨L', hL'⟩ : ∃ L', L ++ [z] = L' := ⟨_, rfl⟩
            rw [hL'] at HY
            have HL' := hid hL'
            clear hL'
            generalize nib x.toNat = a at *
            generalize nib y.toNat = b at *
            have ho5 : ((a * 16 : Nat) : Int) = (a : Int) * 16 := by omega
            rw [ho5] at ho4
            have HO := hid ho4
            clear ho4 ho5
            have hw1 : IntKind.u8.wrap ((a : Int) * 16) = ((a * 16 : Nat) : Int) := by rw [IntWalk.u8_in _ (by omega)]; omega
            have hw2 : IntKind.u8.wrap ((a * 16 + b : Nat) : Int) = ((a * 16 + b : Nat) : Int) := IntWalk.u8_in _ (by omega)
            go_wp2_with fail
            refine (HX.out _).mono ?_
            rintro e w' ⟨rfl, rfl⟩
            go_wp2_with fail
            refine (HYN.out _).mono ?_
            rintro e w' ⟨rfl, rfl⟩
            have hws := hb.size
            have hLl : L.length + 1 ≤ 70368744177664 := by have := congrArg List.length HL'.out; have := HY.out.1; simp at *; omega
            have hrb : RB (wr.alloc (.cells #[.int .u8 (bits .or .u8 ((a : Int) * 16) (b : Int))] 5)) (.slice (some ⟨wr.heap.size, 0, none⟩) 1 1) [z] :=
              RB.new wr _ [z] _ _ 1 rfl rfl (by omega) (by rw [HO.out, ← HZ.out]; rfl)
            go_wp2_with (at_builtin; refine append_u8 (.tmp 42) (.tmp 47) w.heap.size L [z] L' HL'.out rfl rfl rfl rfl (ho.alloc _) hrb hLl (by simp; omega) ?_; intro A3 c3 w3 ho3 hb3 _ _)
            go_roundw
            case rel => exact ⟨k + 1, by omega, by first | rfl | (congr 1; omega), L', A3, c3, HY, rfl, ho3, hb.trans ((below_alloc (Below.refl _ _) _ hb.size).trans hb3)⟩
            case measure => simp [intOf]; omega
          · have hvy : nibV y = .tuple #[.int .u8 0, .bool false] := by unfold nibV; rw [if_neg hy16, decide_eq_false hy16]; rfl
            have hxN := nibble_any x
            have hyN := nibble_any y
            rw [hvx] at hxN
            rw [hvy] at hyN
            have HN : Hid (unhexOf xs = none) := hno.out (fun h => hy16 h.2)
            have HX := hid hxN
            have HYN := hid hyN
            clear hvx hvy hno HST hL hxN hyN
            generalize nib x.toNat = a at *
            go_wp2_with fail
            refine (HX.out _).mono ?_
            rintro e w' ⟨rfl, rfl⟩
            go_wp2_with fail
            refine (HYN.out _).mono ?_
            rintro e w' ⟨rfl, rfl⟩
            go_wp2_with fail
            go_ret2
            exact ⟨by rw [HN.out]; rfl, hb⟩
        · have hvx : nibV x = .tuple #[.int .u8 0, .bool false] := by unfold nibV; rw [if_neg hx16, decide_eq_false hx16]; rfl
          have hxN := nibble_any x
          have hyN := nibble_any y
          rw [hvx] at hxN
          have HN : Hid (unhexOf xs = none) := hno.out (fun h => hx16 h.1)
          have HX := hid hxN
          have HYN := hid hyN
          clear hvx hno HST hL hxN hyN
          unfold nibV at HYN
          generalize (if nib y.toNat < 16 then nib y.toNat else 0) = b at *
          generalize decide (nib y.toNat < 16) = bb at *
          cases bb
          all_goals
            go_wp2_with fail
            refine (HX.out _).mono ?_
            rintro e w' ⟨rfl, rfl⟩
            go_wp2_with fail
            refine (HYN.out _).mono ?_
            rintro e w' ⟨rfl, rfl⟩
            go_wp2_with fail
            go_ret2
            exact ⟨by rw [HN.out]; rfl, hb⟩
    · have hd : xs.drop (2 * k) = [] := List.drop_of_length_le (by omega)
      have HN : Hid (unhexOf xs = some L) := by unfold Hid; rw [hL.out.2, hd]; simp [unhexOf]
      have q1 : ¬ ((2 * k : Nat) : Int) < ((strOf xs).size : Int) := by rw [strOf_size]; omega
      clear hL hd
      go_wp2_with fail
      go_ret2
      exact ⟨by rw [HN.out]; exact ⟨A2, c2, rfl, ho⟩, hb⟩

set_option maxHeartbeats 1000000 in
theorem runhex_any (xs : List UInt8) (w : World) (hl : xs.length ≤ 1000000) :
    Calls Try.prog 24 #[.string (strOf xs)] w fun e w' => unhexV w' w.heap.size (unhexOf xs) e ∧ Below w.heap.size w w' := by
  have hsz := strOf_size xs
  by_cases hpar : xs.length % 2 = 1
  · have HN := hid (unhexOf_odd xs hpar)
    have t1 : ((xs.length : Nat) : Int).tmod 2 = 1 := by rw [Int.tmod_eq_emod_of_nonneg (by omega)]; omega
    go_enter Try.func24, Try.ntmps24
    go_wp2_with fail
    go_ret2
    exact ⟨by rw [HN.out]; rfl, Below.refl _ _⟩
  have t1 : ((xs.length : Nat) : Int).tmod 2 = 0 := by rw [Int.tmod_eq_emod_of_nonneg (by omega)]; omega
  go_enter Try.func24, Try.ntmps24
  go_wp2_with fail
  go_loopw [4, 5] (fun o i wr => ∃ k : Nat, 2 * k ≤ xs.length ∧ i = .int .i64 ((2 * k : Nat) : Int) ∧ ∃ (L : List UInt8) (A : Option Addr) (c : Nat), Hid (L.length = k ∧ unhexOf xs = (unhexOf (xs.drop (2 * k))).map (L ++ ·)) ∧ o = .slice A L.length c ∧ OB wr w.heap.size (.slice A L.length c) L ∧ Below w.heap.size w wr) (fun _ i _ => xs.length + 1 - (intOf i).toNat)
  case atStart => exact ⟨0, by omega, rfl, [], none, 0, ⟨rfl, by simp⟩, rfl, OB.nil _ _, Below.refl _ _⟩
  case round =>
    obtain ⟨k, hk, rfl, L, A2, c2, hL, rfl, ho, hb⟩ := hrel
    by_cases hlt : 2 * k + 1 < xs.length
    · have q1 : ((2 * k : Nat) : Int) + 1 < ((strOf xs).size : Int) := by rw [strOf_size]; omega
      have i1 := strOf_get xs (2 * k) (by omega)
      have i2 := strOf_get xs (2 * k + 1) (by omega)
      obtain ⟨x, hx⟩ : ∃ x, x = xs.getD (2 * k) 0 := ⟨_, rfl⟩
      obtain ⟨y, hy⟩ : ∃ y, y = xs.getD (2 * k + 1) 0 := ⟨_, rfl⟩
      rw [← hx] at i1
      rw [← hy] at i2
      have hst := unhexOf_step xs L k (by omega) hL.out
      rw [← hx, ← hy] at hst
      clear hx hy
      have HST := hid hst
      clear hst
      have q3 : (2 * (k : Int) + 1).toNat = 2 * k + 1 := by omega
      have hxN := rnibble_any x
      have hyN := rnibble_any y
      have hxl := nib_le x.toNat
      have hyl := nib_le y.toNat
      by_cases hx16 : nib x.toNat < 16
      · by_cases hy16 : nib y.toNat < 16
        · have HY := hid (HST.out.2 ⟨hx16, hy16⟩)
          have HZ : Hid ((UInt8.ofNat (nib x.toNat * 16 + nib y.toNat)).toNat = nib x.toNat * 16 + nib y.toNat) := by unfold Hid; rw [UInt8.toNat_ofNat']; omega
          generalize UInt8.ofNat (nib x.toNat * 16 + nib y.toNat) = z at HY HZ
          obtain ⟨L', hL'⟩ : ∃ L', L ++ [z] = L' := ⟨_, rfl⟩
          rw [hL'] at HY
          have HL' := hid hL'
          clear hL' hxN hyN HST hL
          have hws := hb.size
          have hLl : L.length + 1 ≤ 70368744177664 := by have := congrArg List.length HL'.out; have := HY.out.1; simp at *; omega
          have hw1 : IntKind.u8.wrap ((nib x.toNat : Int) * 16) = (nib x.toNat : Int) * 16 := IntWalk.u8_in _ (by omega)
          have hw2 : IntKind.u8.wrap ((nib x.toNat : Int) * 16 + (nib y.toNat : Int)) = (nib x.toNat : Int) * 16 + (nib y.toNat : Int) := IntWalk.u8_in _ (by omega)
          have hrb : ∀ n, RB ((wr.drewN n).alloc (.cells #[.int .u8 ((nib x.toNat : Int) * 16 + (nib y.toNat : Int))] 5)) (.slice (some ⟨wr.heap.size, 0, none⟩) 1 1) [z] :=
            fun n => RB.new (wr.drewN n) _ [z] _ _ 1 rfl rfl (by omega) (by rw [show ((nib x.toNat : Int) * 16 + (nib y.toNat : Int)) = (z.toNat : Int) by rw [HZ.out]; omega]; rfl)
          go_wp2_with (go_at_call 33; refine (rnibble_any _ _).mono ?_; rintro e w' ⟨rfl, rfl⟩)
          have i3 : (strOf xs)[(2 * (k : Int)).toNat]'(by rw [strOf_size]; omega) = x := by rw [← i1]; congr 1
          have i4 : (strOf xs)[(2 * (k : Int) + 1).toNat]'(by rw [strOf_size]; omega) = y := by rw [← i2]; congr 1
          have hw3 : IntKind.i64.wrap (2 * (k : Int) + 1) = 2 * (k : Int) + 1 := IntWalk.i64_in _ (by omega)
          have n1 : (0 : Int) ≤ 2 * (k : Int) := by omega
          have n2 : (0 : Int) ≤ 2 * (k : Int) + 1 := by omega
          have n3 : 2 * (k : Int) < (xs.length : Int) := by omega
          have n4 : 2 * (k : Int) + 1 < (xs.length : Int) := by omega
          go_region_held3 (fun w' => True) (trivial) (first
            | (go_at_call 33; refine (rnibble_any _ _).mono ?_; rintro e w' ⟨rfl, rfl⟩)
            | (refine step_append_u8 (.tmp 30) (.tmp 42) w.heap.size L [z] L' HL'.out (by rfl) (by rfl) (by rfl) (by rfl) ((ho.drewN 1).alloc _) (hrb 1) hLl (by show w.heap.size ≤ ((wr.drewN 1).alloc _).heap.size; simp; omega) ?_; intro A3 c3 w3 ho3 hb3 _ _)
            | fail)
          all_goals
            go_wp2
            go_roundw
            case rel => exact ⟨k + 1, by omega, by first | rfl | (congr 1; omega), L', A3, c3, HY, rfl, ho3, hb.trans ((below_alloc (Below.refl w.heap.size wr) (.cells _ _) hws).drew.trans hb3)⟩
            case measure => simp [intOf]; omega
        · have HN : Hid (unhexOf xs = none) := HST.out.1 (fun h => hy16 h.2)
          have hb2 : ¬ ((nib y.toNat : Int) ≤ 15) := by omega
          clear HST hL hxN hyN
          go_wp2_with (go_at_call 33; refine (rnibble_any _ _).mono ?_; rintro e w' ⟨rfl, rfl⟩)
          go_ret2
          exact ⟨by rw [HN.out]; rfl, hb⟩
      · have HN : Hid (unhexOf xs = none) := HST.out.1 (fun h => hx16 h.1)
        have hb2 : decide (15 < (nib x.toNat : Int)) = true := by simp; omega
        clear HST hL hxN hyN
        go_wp2_with (go_at_call 33; refine (rnibble_any _ _).mono ?_; rintro e w' ⟨rfl, rfl⟩)
        go_ret2
        exact ⟨by rw [HN.out]; rfl, hb⟩
    · have hd : xs.drop (2 * k) = [] := List.drop_of_length_le (by omega)
      have HN : Hid (unhexOf xs = some L) := by unfold Hid; rw [hL.out.2, hd]; simp [unhexOf]
      have q1 : ¬ ((2 * k : Nat) : Int) + 1 < ((strOf xs).size : Int) := by rw [strOf_size]; omega
      clear hL hd
      go_wp2_with fail
      go_ret2
      exact ⟨by rw [HN.out]; exact ⟨A2, c2, rfl, ho⟩, hb⟩
end Go.Proofs.Ytechpojcbhnfgaa
