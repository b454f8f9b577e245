/- Walk of the law ChksumMixed. -/
import Derived.Test.YtmlcnmgfgmcplaaSumD
namespace Go.Proofs.Ytmlcnmgfgmcplaa
set_option linter.unusedVariables false
set_option linter.unusedSimpArgs false
open Go.RowKit

theorem slice_to {P : Program} (t e : TypeId) (kh : IntKind) {i : TypeInfo} (ht : P.underlying t = some (.slice e)) (hi : P.info? e = some i) (A : Option Addr) (n c : Nat) (j : Int) (h0 : 0 ≤ j) (hm : j ≤ n) (hc : n ≤ c) :
    ∀ W : World, (Instr.slice t (.slice A n c) none (some (.int kh j)) none).run P W = .ok (.slice A j.toNat c) W := by
  intro W
  have hel : P.elem t = e := by simp [Program.elem, ht]
  have hu : P.underlying t = some (.slice (P.elem t)) := by rw [hel]; exact ht
  have ha : (A.map fun x => x.add 0) = A := by cases A <;> simp [Addr.add]
  rw [run_slice_h W t A n c hu kh j h0 (by omega), hel]
  simp [sizeOf, typeInfo, hi, sliced, Result.andThen, ha, Addr.add]

set_option maxHeartbeats 800000 in
theorem lawMixed_any (u v : Value) (xs ys : List UInt8) (w : World) (hx : RB w u xs) (hy : RB w v ys) :
    Calls Try.prog 5 #[u, v] w fun e w' => e = .returned (.bool true) ∧ Below w.heap.size w w' := by
  obtain ⟨i0, hi0, hz0, hz1, hz2⟩ := info_parts info_u8
  by_cases h1 : 3000 < xs.length
  · have hd : decide (3000 < xs.length) = true := by simpa using h1
    go_enter Try.func5, Try.ntmps5
    go_wp2_with fail
    refine (long_any _ xs _ hx).mono ?_
    rintro e w' ⟨rfl, rfl⟩
    go_wp2_with fail
    refine (alive_any _).mono ?_
    rintro e w' ⟨rfl, hb⟩
    go_wp2_with fail
    go_ret
    exact ⟨rfl, hb⟩
  by_cases h2 : 3000 < ys.length
  · have hd : decide (3000 < xs.length) = false := by simpa using h1
    have hd2 : decide (3000 < ys.length) = true := by simpa using h2
    go_enter Try.func5, Try.ntmps5
    go_wp2_with fail
    refine (long_any _ xs _ hx).mono ?_
    rintro e w' ⟨rfl, rfl⟩
    go_wp2_with fail
    refine (long_any _ ys _ hy).mono ?_
    rintro e w' ⟨rfl, rfl⟩
    go_wp2_with fail
    refine (alive_any _).mono ?_
    rintro e w' ⟨rfl, hb⟩
    go_wp2_with fail
    go_ret
    exact ⟨rfl, hb⟩
  have hd : decide (3000 < xs.length) = false := by simpa using h1
  have hd2 : decide (3000 < ys.length) = false := by simpa using h2
  go_enter Try.func5, Try.ntmps5
  go_wp2_with fail
  refine (long_any _ xs _ hx).mono ?_
  rintro e w' ⟨rfl, rfl⟩
  go_wp2_with fail
  refine (long_any _ ys _ hy).mono ?_
  rintro e w' ⟨rfl, rfl⟩
  obtain ⟨A, c, rfl, hrow⟩ := hx
  have hcap := hrow.cap
  have htop := hrow.top
  have hcut := slice_to (P := Try.prog) 24 5 .i64 Try.underlying24 hi0 A xs.length c ((xs.length : Int) / 2 * 2) (by omega) (by omega) hcap
  have hn : ((xs.length : Int) / 2 * 2).toNat = xs.length / 2 * 2 := by omega
  rw [hn] at hcut
  have hm : (xs.take (xs.length / 2 * 2)).length = xs.length / 2 * 2 := by rw [List.length_take]; omega
  have hrow2 := hrow.take (m := xs.length / 2 * 2) (by omega)
  rw [Nat.mul_one, by8_take] at hrow2
  generalize xs.take (xs.length / 2 * 2) = zs at hm hrow2
  rw [← hm] at hcut hrow2
  have hx2 : RB w (.slice A zs.length c) zs := ⟨A, c, rfl, hrow2⟩
  have hz : zs.length ≤ 3000 := by omega
  have heven : zs.length % 2 = 0 := by omega
  clear hn hm hrow hrow2
  obtain ⟨A2, c2, rfl, hrowy⟩ := hy
  have hy : RB w (.slice A2 ys.length c2) ys := ⟨A2, c2, rfl, hrowy⟩
  have e1 : wtot [ys, zs] = wtot [zs, ys] := by simp [wtot]; omega
  have e2 : wtot [zs ++ ys] = wtot [zs, ys] := by simp [wtot, wsum_append zs ys heven]
  have hb1 : btot [zs, ys] ≤ 1000000 := by simp [btot]; omega
  have hb2 : btot [ys, zs] ≤ 1000000 := by simp [btot]; omega
  have hb3 : btot [zs ++ ys] ≤ 1000000 := by simp [btot]; omega
  have HB1 := hid hb1
  have HB2 := hid hb2
  clear hb1 hb2
  obtain ⟨L, hL⟩ : ∃ L : List UInt8, zs ++ ys = L := ⟨_, rfl⟩
  rw [hL] at e2 hb3
  have HL := hid hL
  have HBL : L.length ≤ 6000 := by rw [← hL, List.length_append]; omega
  clear hL
  have E1 := hid e1
  have E2 := hid e2
  have HB3 := hid hb3
  clear e1 e2 hb3
  go_wp2_with fail
  refine (sum_any _ [zs, ys] _ (RBB.new2 _ _ _ _ _ _ _ (by simp) hx2 hy) HB1.out).mono ?_
  rintro e w1 ⟨rfl, n1, rfl⟩
  go_wp2_with fail
  refine (sum_any _ [ys, zs] _ ((RBB.new2 _ _ _ _ _ _ _ (by simp) (hy.alloc _) (hx2.alloc _)).drewN _) HB2.out).mono ?_
  rw [E1.out]
  rintro e w2 ⟨rfl, n2, rfl⟩
  go_wp2_with fail
  refine (sum_any _ [zs, ys] _ ((RBB.new2 _ _ _ _ _ _ _ (by simp) ((hx2.alloc _).alloc _) ((hy.alloc _).alloc _)).drewN _) HB1.out).mono ?_
  rintro e w3 ⟨rfl, n3, rfl⟩
  have HB0 : Below w.heap.size w ((((w.alloc (.cells #[.slice A zs.length c, .slice A2 ys.length c2] 24)).alloc (.cells #[.slice A2 ys.length c2, .slice A zs.length c] 24)).alloc (.cells #[.slice A zs.length c, .slice A2 ys.length c2] 24)).drewN (n1 + n2 + n3)) := below_drewN (below_alloc (below_alloc (below_alloc (Below.refl _ _) _ (Nat.le_refl _)) _ (Nat.le_refl _)) _ (Nat.le_refl _)) _
  go_wp2_with (first
    | (at_builtin; refine append_u8 (.const (.slice none 0 0)) (.tmp 32) w.heap.size [] zs zs rfl rfl rfl rfl rfl (OB.nil _ _) (hx2.below HB0) (by simp; omega) HB0.size ?_; intro A3 c3 W1 ho1 hb1 _ _)
    | (at_builtin; refine append_u8 (.tmp 33) (.tmp 34) w.heap.size zs ys L HL.out rfl rfl rfl rfl ho1 (hy.below (HB0.trans hb1)) (by omega) (HB0.trans hb1).size ?_; intro A4 c4 W2 ho2 hb2 _ _))
  refine (sum_any _ [L] _ (RBB.new1 _ _ _ _ _ (by first | rfl | simp) ho2.rb) HB3.out).mono ?_
  rw [E2.out]
  rintro e w4 ⟨rfl, n4, rfl⟩
  go_wp2_with fail
  have HB4 := below_drewN (below_alloc ((HB0.trans hb1).trans hb2) (.cells #[.slice A4 L.length c4] 24) (Nat.le_refl _)) n4
  refine (alive_any _).mono ?_
  rintro e w5 ⟨rfl, hb5⟩
  go_wp2_with fail
  go_ret
  exact ⟨rfl, below_after HB4 hb5 (Nat.le_refl _)⟩
end Go.Proofs.Ytmlcnmgfgmcplaa
