/- Walk of the law ChksumAnew. -/
import Derived.Test.YtmlcnmgfgmcplaaSumD
namespace Go.Proofs.Ytmlcnmgfgmcplaa
set_option linter.unusedVariables false
set_option linter.unusedSimpArgs false
open Go.RowKit

set_option maxHeartbeats 1000000 in
theorem lawAnew_any (u : Value) (xs : List UInt8) (a is : Int) (w : World) (hx : RB w u xs) (a0 : -9223372036854775808 ≤ a) (a1 : a ≤ 9223372036854775807) (i0 : 0 ≤ is) (i1 : is ≤ 65535) :
    Calls Try.prog 6 #[u, .int .i64 a, .int .u16 is] w fun e w' => e = .returned (.bool true) ∧ Below w.heap.size w w' := by
  by_cases h1 : 3000 < xs.length
  · have hd : decide (3000 < xs.length) = true := by simpa using h1
    go_enter Try.func6, Try.ntmps6
    go_wp2_with fail
    refine (long_any _ xs _ hx).mono ?_
    rintro e w' ⟨rfl, rfl⟩
    go_wp2_with fail
    refine (alive_any _).mono ?_
    rintro e w' ⟨rfl, hb⟩
    go_wp2_with fail
    go_ret
    exact ⟨rfl, hb⟩
  obtain ⟨A, c, rfl, hrow⟩ := hx
  have hx : RB w (.slice A xs.length c) xs := ⟨A, c, rfl, hrow⟩
  have hcap := hrow.cap
  have htop := hrow.top
  by_cases h2 : xs.length < 2
  · have hd : decide (3000 < xs.length) = false := by simpa using h1
    have hd2 : decide ((xs.length : Int) < 2) = true := by simp; omega
    go_enter Try.func6, Try.ntmps6
    go_wp2_with fail
    refine (long_any _ xs _ hx).mono ?_
    rintro e w' ⟨rfl, rfl⟩
    go_wp2_with fail
    refine (alive_any _).mono ?_
    rintro e w' ⟨rfl, hb⟩
    go_wp2_with fail
    go_ret
    exact ⟨rfl, hb⟩
  have hd : decide (3000 < xs.length) = false := by simpa using h1
  have hd2 : decide ((xs.length : Int) < 2) = false := by simp; omega
  obtain ⟨j, hj, hje, hm1, hm2⟩ := modBack a ((xs.length : Int) / 2) (by omega)
  obtain ⟨ad, rfl⟩ := hrow.addr (by rw [hrow.len]; omega)
  go_enter Try.func6, Try.ntmps6
  go_wp2_with fail
  refine (long_any _ xs _ hx).mono ?_
  rintro e w' ⟨rfl, rfl⟩
  have hne : ¬ ((xs.length : Int) / 2 = 0) := by omega
  have hj2 : j * 2 + 1 < xs.length := by omega
  have e0 := hrow.get (j * 2) _ (by8_get xs (j * 2) (by omega))
  have e1 := hrow.lit (j * 2 + 1) _ (by omega) (by8_get xs (j * 2 + 1) hj2)
  have hset := wsum_set' xs j (hi8 is) (lo8 is) hj2
  have hset0 := wsum_set' xs j 0 0 hj2
  have hnn := (wsum_range ((xs.set (j * 2) 0).set (j * 2 + 1) 0)).1
  have hlw := (wsum_range xs).2
  generalize xs.getD (j * 2) 0 = x0 at e0 hset hset0
  generalize xs.getD (j * 2 + 1) 0 = x1 at e1 hset hset0
  have r0 := x0.toNat_lt
  have r1 := x1.toNat_lt
  have hw16 := word16_val x0 x1
  have b0 : 0 ≤ (j : Int) * 2 := by omega
  have b1 : (j : Int) * 2 < (xs.length : Int) := by omega
  have b2 : 0 ≤ (j : Int) * 2 + 1 := by omega
  have b3 : (j : Int) * 2 + 1 < (xs.length : Int) := by omega
  rw [hilo is i0 i1] at hset
  have HS := hid hset
  have HS0 := hid hset0
  clear hset hset0
  go_wp2_with fail
  go_quiet (fail)
  have hv0 := (hi8_val is i0 i1).symm
  have hv1 : IntKind.u8.wrap is = ((lo8 is).toNat : Int) := by rw [IntKind.wrap_u8, lo8_val]
  go_wp2_with (at_builtin; refine append_u8 (.const (.slice none 0 0)) (.tmp 47) w.heap.size [] xs xs rfl rfl rfl rfl rfl (OB.nil _ _) (hx.drewN _) (by show 0 + xs.length ≤ _; omega) (Nat.le_refl _) ?_; intro A3 c3 W1 ho1 hb1 _ _; obtain ⟨g, rfl, hg0, hg1, _⟩ := ho1.blk (by omega); obtain ⟨s1, s2, s3⟩ := ho1.store (j * 2) (by omega); obtain ⟨t1, t2, t3⟩ := (s3 (hi8 is) _ rfl).store (j * 2 + 1) (by rw [List.length_set]; omega))
  have ho3 := t3 (lo8 is) _ rfl
  have HB1 := (((below_drewN (Below.refl w.heap.size w) nq).trans hb1).setCell (p := ⟨g, j * 2, none⟩) hg0 (.int .u8 ((hi8 is).toNat : Int))).setCell (p := ⟨g, j * 2 + 1, none⟩) hg0 (.int .u8 ((lo8 is).toNat : Int))
  clear t1 t2 t3 s1 s2 s3 ho1 hb1
  generalize hW3 : ((W1.setCell ⟨g, j * 2, none⟩ (.int .u8 ((hi8 is).toNat : Int))).setCell ⟨g, j * 2 + 1, none⟩ (.int .u8 ((lo8 is).toNat : Int))) = W3 at ho3 HB1
  have hsz : W1.heap.size = W3.heap.size := by rw [← hW3]; simp [World.setCell]
  rw [hsz]
  clear hW3 hsz
  have hl3 : ((xs.set (j * 2) (hi8 is)).set (j * 2 + 1) (lo8 is)).length = xs.length := by simp
  generalize (xs.set (j * 2) (hi8 is)).set (j * 2 + 1) (lo8 is) = ys at ho3 HS hl3
  have hwy := wsum_range ys
  have hT : wtot [xs] = wsum xs := by simp [wtot]
  have hT' : wtot [ys] = wsum ys := by simp [wtot]
  have HL3 := hid hl3
  clear hl3
  refine (check_any _ [xs] _ (RBB.new1 _ _ _ _ _ rfl (hx.below HB1)) (by simp [btot]; omega)).mono ?_
  rw [hT]
  rintro e w4 ⟨rfl, n4, rfl⟩
  have hf := foldS_range (wsum xs)
  go_wp2_with fail
  refine (turn_any _ _ _ _ (by omega) (by omega) (by omega) (by omega) i0 i1).mono ?_
  have h0 : 65535 - (65535 - foldS (wsum xs)) = foldS (wsum xs) := by omega
  rw [h0]
  have han := anew (wsum xs) ((x0.toNat : Int) * 256 + x1.toNat) is (by have := HS0.out; simp at this; omega) (by omega) (by omega) i0 i1
  rw [← HS.out] at han
  have hr := foldS_range (foldS (wsum xs) + (65535 - ((x0.toNat : Int) * 256 + x1.toNat)) + is)
  generalize foldS (foldS (wsum xs) + (65535 - ((x0.toNat : Int) * 256 + x1.toNat)) + is) = P at han hr
  rintro e w5 ⟨rfl, rfl⟩
  go_wp2_with fail
  have HB4 := below_drewN (below_alloc HB1 (.cells #[.slice (some ad) xs.length c] 24) (Nat.le_refl _)) n4
  refine (check_any _ [ys] _ (RBB.new1 _ _ _ _ _ (by simp) ((ho3.rb.alloc _).drewN _)) (by have := HL3.out; simp [btot]; omega)).mono ?_
  rw [hT']
  have hq := foldS_range (wsum ys)
  generalize foldS (wsum ys) = Q at han hq
  have HB5 := fun n5 => below_drewN (below_alloc HB4 (.cells #[.slice (some ⟨g, 0, none⟩) xs.length c3] 24) (Nat.le_refl _)) n5
  rintro e w6 ⟨rfl, n6, rfl⟩
  rcases han with rfl | ⟨rfl, rfl⟩
  · go_wp2_with fail
    refine (alive_any _).mono ?_
    rintro e w7 ⟨rfl, hb7⟩
    go_wp2_with fail
    go_ret
    exact ⟨rfl, below_after (HB5 n6) hb7 (Nat.le_refl _)⟩
  · go_wp2_with fail
    refine (alive_any _).mono ?_
    rintro e w7 ⟨rfl, hb7⟩
    go_wp2_with fail
    go_ret
    exact ⟨rfl, below_after (HB5 n6) hb7 (Nat.le_refl _)⟩
end Go.Proofs.Ytmlcnmgfgmcplaa
