/- Walk of the law ChksumGood. -/
import Derived.Test.YtmlcnmgfgmcplaaLoad
import Derived.StillTailTactics
namespace Go.Proofs.Ytmlcnmgfgmcplaa
set_option linter.unusedVariables false
set_option linter.unusedSimpArgs false
open Go.RowKit

theorem adr_first (s d : Adr) : ∀ (j : Nat) u, s.cells[j]? = some u → (s.cells ++ d.cells)[0 + j]? = some u := by
  intro j u h
  rw [Nat.zero_add, Array.getElem?_append_left (Array.getElem?_eq_some_iff.1 h).1]; exact h
theorem adr_second (s d : Adr) : ∀ (j : Nat) u, d.cells[j]? = some u → (s.cells ++ d.cells)[17 + j]? = some u := by
  intro j u h
  rw [Array.getElem?_append_right (by rw [Adr.cells_size]; omega), Adr.cells_size, Nat.add_sub_cancel_left]; exact h

set_option maxHeartbeats 2000000 in
theorem lawGood_any (s d : Adr) (v : Value) (xs : List UInt8) (a b : Int) (w : World) (hx : RB w v xs) (a0 : -9223372036854775808 ≤ a) (a1 : a ≤ 9223372036854775807) (b0 : -9223372036854775808 ≤ b) (b1 : b ≤ 9223372036854775807) :
    Calls Try.prog 7 #[.agg (s.cells ++ d.cells), v, .agg #[.int .i64 a, .int .i64 b]] w fun e w' => e = .returned (.bool true) ∧ Below w.heap.size w w' := by
  obtain ⟨W0, hW0, f0, f1, fb0, fs0⟩ := two_blocks w (.cells (s.cells ++ d.cells) 38) (.cells #[.int .i64 a, .int .i64 b] 39)
  have HW0 := hid hW0
  clear hW0
  have hxW := hx.below fb0
  have c0 : W0.cell? ⟨w.heap.size + 1, 0, none⟩ = some (.int .i64 a) := cell_of_row _ _ _ _ _ _ f1
  have c1 : W0.cell? ⟨w.heap.size + 1, 1, none⟩ = some (.int .i64 b) := cell_of_row _ _ _ _ _ _ f1
  by_cases h1 : 3000 < xs.length
  · have hd : decide (3000 < xs.length) = true := by simpa using h1
    go_enter Try.func7, Try.ntmps7
    go_wp2_with fail
    rw [← HW0.out]
    clear HW0
    refine (long_any _ xs _ hxW).mono ?_
    rintro e w' ⟨rfl, rfl⟩
    go_wp2_with fail
    refine (alive_any _).mono ?_
    rintro e w' ⟨rfl, hb⟩
    go_wp2_with fail
    go_ret
    exact ⟨rfl, below_after fb0 hb (Nat.le_refl _)⟩
  obtain ⟨A, c, rfl, hrow⟩ := hx
  have hcap := hrow.cap
  have htop := hrow.top
  by_cases h2 : xs.length < 2
  · have hd : decide (3000 < xs.length) = false := by simpa using h1
    have hd2 : decide ((xs.length : Int) < 2) = true := by simp; omega
    go_enter Try.func7, Try.ntmps7
    go_wp2_with fail
    rw [← HW0.out]
    clear HW0
    refine (long_any _ xs _ hxW).mono ?_
    rintro e w' ⟨rfl, rfl⟩
    go_wp2_with fail
    refine (alive_any _).mono ?_
    rintro e w' ⟨rfl, hb⟩
    go_wp2_with fail
    go_ret
    exact ⟨rfl, below_after fb0 hb (Nat.le_refl _)⟩
  have hd : decide (3000 < xs.length) = false := by simpa using h1
  have hd2 : decide ((xs.length : Int) < 2) = false := by simp; omega
  obtain ⟨j, hj, hje, hm1, hm2⟩ := modBack a ((xs.length : Int) / 2) (by omega)
  have hne : ¬ ((xs.length : Int) / 2 = 0) := by omega
  go_enter Try.func7, Try.ntmps7
  go_wp2_with fail
  rw [← HW0.out]
  clear HW0
  refine (long_any _ xs _ hxW).mono ?_
  rintro e w' ⟨rfl, rfl⟩
  go_wp2_with (first
    | (at_builtin; refine append_u8 (.const (.slice none 0 0)) (.tmp 19) W0.heap.size [] xs xs rfl rfl rfl rfl rfl (OB.nil _ _) hxW (by show 0 + xs.length ≤ _; omega) (Nat.le_refl _) ?_; intro A3 c3 W1 ho1 hb1 _ _; obtain ⟨g, rfl, hg0, hg1, _⟩ := ho1.blk (by omega); obtain ⟨s1, s2, s3⟩ := ho1.store (j * 2) (by omega); obtain ⟨t1, t2, t3⟩ := (s3 0 0 rfl).store (j * 2 + 1) (by rw [List.length_set]; omega); have C0 := (hb1.cell (p := ⟨w.heap.size + 1, 0, none⟩) (by rw [fs0]; simp)).trans c0; have HB3 := (hb1.setCell (p := ⟨g, j * 2, none⟩) hg0 (.int .u8 0)).setCell (p := ⟨g, j * 2 + 1, none⟩) hg0 (.int .u8 0); have F0 := (HB3.block w.heap.size (by rw [fs0]; omega)).trans f0)
    | refine wpList_load_at 37 (.tmp 43) rfl rfl ⟨w.heap.size, 0, none⟩ rfl s.cells _ (cells_part F0 (adr_first s d)) Try.underlying37 rfl (info_addr s) ?_
    | refine wpList_load_at 37 (.tmp 45) rfl rfl ⟨w.heap.size, 17, none⟩ rfl d.cells _ (cells_part F0 (adr_second s d)) Try.underlying37 rfl (info_addr d) ?_)
  have ho3 := t3 0 0 rfl
  clear t1 t2 t3 s1 s2 s3 ho1 C0
  generalize hW3 : ((W1.setCell ⟨g, j * 2, none⟩ (.int .u8 0)).setCell ⟨g, j * 2 + 1, none⟩ (.int .u8 0)) = W3 at ho3 HB3 F0 ⊢
  clear hW3 hb1
  have hl1 : ((xs.set (j * 2) 0).set (j * 2 + 1) 0).length = xs.length := by simp
  have hy0 : ((xs.set (j * 2) 0).set (j * 2 + 1) 0).getD (j * 2) 0 = 0 := by
    rw [List.getD_eq_getElem?_getD, List.getElem?_set_ne (by omega), List.getElem?_set_self (by omega)]; rfl
  have hy1 : ((xs.set (j * 2) 0).set (j * 2 + 1) 0).getD (j * 2 + 1) 0 = 0 := by
    rw [List.getD_eq_getElem?_getD, List.getElem?_set_self (by simp; omega)]; rfl
  generalize (xs.set (j * 2) 0).set (j * 2 + 1) 0 = ys at ho3 hl1 hy0 hy1
  have hset : ∀ x y, wsum ((ys.set (j * 2) x).set (j * 2 + 1) y) = wsum ys + (x.toNat * 256 + y.toNat) := by
    intro x y
    rw [wsum_set' ys j x y (by omega), hy0, hy1]
    simp
  have HSET := hid hset
  clear hset hy0 hy1
  have HL1 := hid hl1
  clear hl1
  have r1 := HL1.out
  refine (load_any s d 6 _ ys W3 ho3.rb (by have := HL1.out; omega)).mono ?_
  clear r1
  have hpe := pseudoS_even s d 6 ys.length
  have hpl := pseudoS_len s d 6 ys.length
  rw [HL1.out] at hpe hpl ⊢
  generalize hps : pseudoS s d 6 xs.length = ps at hpe hpl ⊢
  have HPS := hid hps
  clear hps
  have hwr := wtot_range [ps, ys]
  have hfr := foldS_range (wtot [ps, ys])
  obtain ⟨n, hn⟩ : ∃ n, n = 65535 - foldS (wtot [ps, ys]) := ⟨_, rfl⟩
  rw [← hn]
  have HN := hid hn
  have n0 : 0 ≤ n := by omega
  have n1 : n ≤ 65535 := by omega
  clear hn hfr
  rintro e W4 ⟨rfl, hb4⟩
  have ho4 := ho3.below hb4
  have HB4 := below_after HB3 hb4 (Nat.le_refl _)
  have hg4 : g < W4.heap.size := by obtain ⟨g', e1, _, e3, _⟩ := ho4.blk (by omega); injection e1 with e1; injection e1 with e1; subst e1; exact e3
  have hys : ys.length = xs.length := HL1.out
  obtain ⟨s1, s2, s3⟩ := ho4.store (j * 2) (by omega)
  obtain ⟨t1, t2, t3⟩ := (s3 (hi8 n) _ rfl).store (j * 2 + 1) (by rw [List.length_set]; omega)
  have HB5 := (HB4.setCell (p := ⟨g, j * 2, none⟩) hg0 (.int .u8 ((hi8 n).toNat : Int))).setCell (p := ⟨g, j * 2 + 1, none⟩) hg0 (.int .u8 ((lo8 n).toNat : Int))
  have F5 := (HB5.block w.heap.size (by rw [fs0]; omega)).trans f0
  have C5 := (HB5.cell (p := ⟨w.heap.size + 1, 1, none⟩) (by rw [fs0]; simp)).trans c1
  have ho5 := t3 (lo8 n) _ rfl
  have hv0 := (hi8_val n n0 n1).symm
  have hv1 : IntKind.u8.wrap n = ((lo8 n).toNat : Int) := by rw [IntKind.wrap_u8, lo8_val]
  clear hys
  have S3 := hid s3
  have T3 := hid t3
  clear s3 t3
  go_wp2_with (first
    | refine wpList_load_at 37 (.tmp 61) rfl rfl ⟨w.heap.size, 0, none⟩ rfl s.cells _ (cells_part F5 (adr_first s d)) Try.underlying37 rfl (info_addr s) ?_
    | refine wpList_load_at 37 (.tmp 63) rfl rfl ⟨w.heap.size, 17, none⟩ rfl d.cells _ (cells_part F5 (adr_second s d)) Try.underlying37 rfl (info_addr d) ?_)
  have hz : wsum ((ys.set (j * 2) (hi8 n)).set (j * 2 + 1) (lo8 n)) = wsum ys + n := by rw [HSET.out, hilo n n0 n1]
  have hl5 : ((ys.set (j * 2) (hi8 n)).set (j * 2 + 1) (lo8 n)).length = xs.length := by simp; exact HL1.out
  clear S3 T3 s1 s2 t1 t2 hv0 hv1
  generalize (ys.set (j * 2) (hi8 n)).set (j * 2 + 1) (lo8 n) = zs at ho5 hz hl5
  generalize ((W4.setCell ⟨g, j * 2, none⟩ (.int .u8 ((hi8 n).toNat : Int))).setCell ⟨g, j * 2 + 1, none⟩ (.int .u8 ((lo8 n).toNat : Int))) = W5 at ho5 HB5 F5 C5 ⊢
  have HL5 := hid hl5
  clear hl5
  refine (good_any s d 6 _ zs W5 ho5.rb (by have := HL5.out; omega)).mono ?_
  rw [HL5.out, HPS.out]
  have hS : wtot [ps, zs] = wtot [ps, ys] + n := by simp [wtot, hz]; omega
  have hgood : foldS (wtot [ps, zs]) = 65535 := by rw [hS, HN.out]; exact foldS_laid _ hwr.1
  have hgb : (foldS (wtot [ps, zs]) == 65535) = true := by rw [hgood]; rfl
  rw [hgb]
  have HGOOD := hid hgood
  clear hgood hgb
  rintro e W6 ⟨rfl, hb6⟩
  have ho6 := ho5.below hb6
  have HB6 := below_after HB5 hb6 (Nat.le_refl _)
  have C6 := (HB6.cell (p := ⟨w.heap.size + 1, 1, none⟩) (by rw [fs0]; simp)).trans c1
  have hzl : zs.length = xs.length := HL5.out
  obtain ⟨m, hmlt, hme, hm3, hm4⟩ := modBack b (8 * (xs.length : Int)) (by omega)
  have hne2 : ¬ (8 * (xs.length : Int) = 0) := by omega
  obtain ⟨i, hi⟩ : ∃ i, i = m / 8 := ⟨_, rfl⟩
  obtain ⟨q, hq⟩ : ∃ q, q = m % 8 := ⟨_, rfl⟩
  have hq8 : q < 8 := by omega
  have hil : i < xs.length := by omega
  obtain ⟨s1, s2, s3⟩ := ho6.store i (by omega)
  have S3 := hid s3
  clear s3 hzl
  go_wp2_with fail
  rw [hme]
  have k1 : (m : Int).tdiv 8 = (i : Int) := by rw [Int.tdiv_eq_ediv_of_nonneg (by omega)]; omega
  have k2 : (m : Int).tmod 8 = (q : Int) := by rw [Int.tmod_eq_emod_of_nonneg (by omega)]; omega
  have k3 : IntKind.i64.wrap (i : Int) = (i : Int) := IntWalk.i64_in _ (by omega)
  have k4 : IntKind.i64.wrap (q : Int) = (q : Int) := IntWalk.i64_in _ (by omega)
  generalize hX : zs.getD i 0 = X at s1
  have HX := hid hX
  clear hX hi hq
  clear hme hm3 hm4 hje hm1 hm2
  go_still_tail 10, (by kernel_rfl)
  change wpList _ _ _ _ _ W6.drew
  have s1 : W6.drew.cell? ⟨g, i, none⟩ = some (.int .u8 (X.toNat : Int)) := s1
  have s2 : W6.drew.frozen? ⟨g, i, none⟩ = false := s2
  have HB7 : Below W0.heap.size W0 W6.drew := HB6.drew
  have S7 : Hid (∀ (x : UInt8) (n' : Int), n' = (x.toNat : Int) → OB (W6.drew.setCell ⟨g, i, none⟩ (.int .u8 n')) W0.heap.size (.slice (some ⟨g, 0, none⟩) xs.length c3) (zs.set i x)) := S3
  generalize W6.drew = W7 at s1 s2 HB7 S7 ⊢
  have HB8 := fun n' : Int => HB7.setCell (p := ⟨g, i, none⟩) hg0 (.int .u8 n')
  have F8 := fun n' : Int => ((HB8 n').block w.heap.size (by rw [fs0]; omega)).trans f0
  go_wp2_with (first
    | refine wpList_load_at 37 (.tmp 92) rfl rfl ⟨w.heap.size, 0, none⟩ rfl s.cells _ (cells_part (F8 _) (adr_first s d)) Try.underlying37 rfl (info_addr s) ?_
    | refine wpList_load_at 37 (.tmp 94) rfl rfl ⟨w.heap.size, 17, none⟩ rfl d.cells _ (cells_part (F8 _) (adr_second s d)) Try.underlying37 rfl (info_addr d) ?_)
  obtain ⟨Y, hY⟩ : ∃ Y : UInt8, Y = UInt8.ofNat (X.toNat ^^^ 2 ^ q) := ⟨_, rfl⟩
  have hYn : (Y.toNat : Nat) = X.toNat ^^^ 2 ^ q := by rw [hY, UInt8.toNat_ofNat']; exact Nat.mod_eq_of_lt (xor_lt X q hq8)
  have hval : bits .xor .u8 (X.toNat : Int) (2 ^ q % 256) = (Y.toNat : Int) := by
    have h1 : ((2 : Int) ^ q % 256) = ((2 ^ q : Nat) : Int) := by
      have := pow_cases q hq8
      rw [Int.natCast_pow]
      simp only [Int.cast_ofNat_Int]
      omega
    rw [h1, u8_xor_nat _ _ X.toNat_lt (by have := Nat.pow_lt_pow_right (a := 2) (by omega) hq8; omega), hYn]
  rw [hval]
  have ho8 := S7.out Y _ rfl
  have HB9 := HB8 (Y.toNat : Int)
  have hd1 : (Y.toNat : Int) - X.toNat = 2 ^ q ∨ (Y.toNat : Int) - X.toNat = -2 ^ q := by
    have := xor_bit X q hq8
    rw [hYn]; omega
  have hzl : zs.length = xs.length := HL5.out
  have hwz := wsum_set1 zs i Y (by omega)
  rw [HX.out] at hwz
  have hu0 := (wsum_range (zs.set i Y)).1
  have hp0 := (wsum_range ps).1
  have hpz := (wtot_range [ps, zs]).1
  have hbad : foldS (wtot [ps, zs.set i Y]) ≠ 65535 := by
    have e1 : wtot [ps, zs.set i Y] = wtot [ps, zs] + ((Y.toNat : Int) - X.toNat) * (if i % 2 = 0 then 256 else 1) := by
      simp only [wtot_cons, wtot_nil, hwz]; omega
    rw [e1]
    refine foldS_turned _ _ q hq8 HGOOD.out hpz _ (by split <;> simp) hd1 ?_
    rw [← e1]; exact (wtot_range _).1
  have hbb : (foldS (wtot [ps, zs.set i Y]) == 65535) = false := by simpa using hbad
  have hul : (zs.set i Y).length = xs.length := by rw [List.length_set]; exact hzl
  clear hval hd1 hwz hbad hzl F8 HB8
  generalize W7.setCell ⟨g, i, none⟩ (.int .u8 (Y.toNat : Int)) = W8 at ho8 HB9 ⊢
  generalize zs.set i Y = us at ho8 hbb hul hu0
  have HUL := hid hul
  clear hul
  refine (good_any s d 6 _ us W8 ho8.rb (by have := HUL.out; omega)).mono ?_
  rw [HUL.out, HPS.out, hbb]
  rintro e W9 ⟨rfl, hb9⟩
  have HB10 := below_after HB9 hb9 (Nat.le_refl _)
  go_wp2_with fail
  refine (alive_any _).mono ?_
  rintro e W10 ⟨rfl, hb10⟩
  go_wp2_with fail
  go_ret
  exact ⟨rfl, below_after (below_after fb0 (HB10.mono (Nat.le_refl _)) (Nat.le_refl _)) hb10 (Nat.le_refl _)⟩
end Go.Proofs.Ytmlcnmgfgmcplaa
