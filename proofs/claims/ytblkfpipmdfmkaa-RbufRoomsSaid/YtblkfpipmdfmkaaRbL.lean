/- Walk: Read of a buffer. -/
import Derived.Test.YtblkfpipmdfmkaaRbK
namespace Go.Proofs.Ytblkfpipmdfmkaa
set_option linter.unusedVariables false
set_option linter.unusedSimpArgs false
open Go.RowKit

theorem off_back (f n i : Nat) (h1 : f < 4294967296) (h2 : n ≤ 8192) (hi : i < 4294967296) : ((f + 4294967296 - n + i) % 4294967296 + 4294967296 - (f + 4294967296 - n) % 4294967296) % 4294967296 = i := by
  omega
theorem offB_back (m : BufP) (i : Nat) (hf : m.f < M32) (hn : m.n ≤ 8192) (hi : i < M32) : offB m ((m.f + M32 - m.n + i) % M32) = i := by
  unfold offB
  rw [M32_eq] at *
  exact off_back m.f m.n i hf hn hi
theorem placeC_any (gb g d : Nat) (m : BufP) (i num : Nat) (w : World) (h : BufW w gb g d m) (hk : BOk m) (hi : i < M32) (hnum : (m.f + M32 - m.n + i) % M32 = num) : Calls Try.prog 26 #[.pointer (some ⟨gb, 0, none⟩), .int .u32 (num : Int)] w fun e w' => e = .returned (.pointer (some ⟨d, (m.beg + i) % m.R, none⟩)) ∧ Below w.heap.size w w' := by
  have h1 := place_any gb g d m num w h hk (by rw [← hnum]; exact Nat.mod_lt _ M32_pos)
  have e : offB m num = i := by rw [← hnum]; exact offB_back m i hk.f (Nat.le_trans hk.n hk.r2) hi
  rw [e] at h1
  exact h1
theorem getB_len (m : BufP) (k : Nat) : (getB m k).length = k := by simp [getB]
theorem getB_take (m : BufP) (k j : Nat) (h : j < k) : (getB m k).take (j + 1) = (getB m k).take j ++ [m.xs.getD ((m.beg + j) % m.R) 0] := by
  rw [List.take_succ_eq_append_getElem (by rw [getB_len]; exact h)]
  simp [getB]
theorem readB_none (m : BufP) (N : Int) (hk : BOk m) (h : cntB m N = 0) : readB m N = m := by
  unfold readB
  rw [h, Nat.sub_zero, Nat.add_zero, Nat.mod_eq_of_lt hk.beg]
theorem OB.of_row {w : World} {base g : Nat} {xs : List UInt8} (h : w.heap[g]? = some (.cells (by8 xs).toArray 5 (0, 0))) (hb : base ≤ g) (hl : xs.length ≤ 1000000) : OB w base (.slice (some ⟨g, 0, none⟩) xs.length xs.length) xs := by
  refine ⟨by rw [by8_length]; omega, .inr ⟨g, xs.length, (by8 xs).toArray, rfl, hb, h, Nat.le_refl _, by unfold maxLen; omega, by simp [by8_length], ?_⟩⟩
  rw [List.take_of_length_le]
  simp [by8_length]
theorem set_take {T : Type} (ys : List T) (j : Nat) (b : T) (h : j < ys.length) : (ys.set j b).take (j + 1) = ys.take j ++ [b] := by
  rw [List.take_succ_eq_append_getElem (by rw [List.length_set]; exact h), List.getElem_set_self, List.take_set_of_le (Nat.le_refl _)]
/-- A cell of another block turns. -/
theorem BufW.far {w : World} {gb g d nb : Nat} {m : BufP} {cs : Array Value} {T : TypeId} {fr : Nat × Nat} (h : BufW w gb g d m) (hn : w.heap[nb]? = some (.cells cs T fr)) (hT : T ≠ 81) (h1 : nb ≠ gb) (h2 : nb ≠ g) (h3 : nb ≠ d) (j : Nat) (v : Value) : BufW (w.setCell ⟨nb, j, none⟩ v) gb g d m :=
  ⟨(rowSetCell_far h1 _ _).trans h.blk, h.brd.one hn hT h2.symm (fun k _ hk => rowSetCell_far hk.symm _ _), (rowSetCell_far h3 _ _).trans h.dat, h.bg, h.bd, h.gd⟩
set_option maxRecDepth 20000 in
set_option maxHeartbeats 4000000 in
theorem readbuf_any (gb g d : Nat) (m : BufP) (N : Int) (w : World) (h : BufW w gb g d m) (hk : BOk m) :
    Calls Try.prog 11 #[.pointer (some ⟨gb, 0, none⟩), .int .i64 N] w fun e w' => ∃ A c, e = .returned (.slice A (cntB m N) c) ∧ OB w' w.heap.size (.slice A (cntB m N) c) (getB m (cntB m N)) ∧ BufW w' gb g d (readB m N) ∧ Mod [gb] w w' := by
  have HL := hid (buflen_any gb g d m w h)
  have HH := hid h
  have HK := hid hk
  obtain ⟨k, hkk⟩ : ∃ k, cntB m N = k := ⟨_, rfl⟩
  have HRB := hid (show readB m N = { m with n := m.n - k, beg := (m.beg + k) % m.R } by unfold readB; rw [hkk])
  have HNO := hid (readB_none m N hk)
  rw [hkk] at HNO ⊢
  have hkn : k ≤ m.n := by rw [← hkk]; unfold cntB; omega
  have hR := hk.r2
  have hR1 := hk.r1
  have hn := hk.n
  have hbeg := hk.beg
  have hF : m.f < 4294967296 := hk.f
  obtain ⟨M, hM⟩ : ∃ M : Int, max N 0 = M := ⟨_, rfl⟩
  have a1 : (if N < 0 then 0 else N) = M := by split <;> omega
  have a2 : (if 0 < N then N else 0) = M := by split <;> omega
  have a3 : (if N ≤ 0 then 0 else N) = M := by split <;> omega
  have b1 : min M (m.n : Int) = (k : Int) := by unfold cntB at hkk; omega
  have b2 : (if (m.n : Int) < M then (m.n : Int) else M) = (k : Int) := by split <;> omega
  have b3 : (if M < (m.n : Int) then M else (m.n : Int)) = (k : Int) := by split <;> omega
  have b4 : (if M ≤ (m.n : Int) then M else (m.n : Int)) = (k : Int) := by split <;> omega
  have HMK := fun W => make8_any k W (by omega)
  clear h hk hkk
  by_cases h0 : k = 0
  · subst h0
    go_enter Try.func11, Try.ntmps11
    go_wp2_with fail
    (with_reducible refine Calls.mono HL.out ?_)
    rintro e w' ⟨rfl, rfl⟩
    go_wp2_with fail
    go_ret
    have e0 : getB m 0 = [] := rfl
    refine ⟨none, 0, rfl, by rw [e0]; exact OB.nil _ _, ?_, Mod.refl _ _⟩
    rw [HNO.out (by trivial)]
    exact HH.out
  · have t0 : ((k : Int) == 0) = false := by rw [beq_eq_false_iff_ne]; omega
    clear HNO h0
    go_enter Try.func11, Try.ntmps11
    go_wp2_with fail
    (with_reducible refine Calls.mono HL.out ?_)
    rintro e w' ⟨rfl, rfl⟩
    go_upto_region 5 with fail
    have hb1 := bl1 w (.cells (by8 (List.replicate k 0)).toArray 5)
    have hx1 := nw1 w (.cells (by8 (List.replicate k 0)).toArray 5)
    have hnb := HH.out.lt
    generalize w.alloc _ = W1 at hb1 hx1 ⊢
    have H1 := hid (HH.out.below hb1)
    have HX1 := hid hx1
    have HB1 := hid hb1
    have hgs := (Array.getElem?_eq_some_iff.1 hx1).1
    clear hx1 hb1
    obtain ⟨fs, hfs⟩ : ∃ x, (m.f + M32 - m.n) % M32 = x := ⟨_, rfl⟩
    have hfsl : fs < 4294967296 := by rw [← hfs]; exact Nat.mod_lt _ M32_pos
    have w1 : IntKind.u32.wrap (m.n : Int) = (m.n : Int) := by rw [IntKind.wrap_u32]; omega
    have w2 : IntKind.u32.wrap ((m.f : Int) - (m.n : Int)) = (fs : Int) := by rw [IntKind.wrap_u32]; rw [M32_eq] at hfs; omega
    have HFS := hid hfs
    clear hfs
    have HN := hid (fun W (hb : Below W1.heap.size W1 W) => bufnext_b gb g d m W (H1.out.below (hb.mono (Nat.le_refl _))))
    have HC := hid (fun W (hb : Below W1.heap.size W1 W) => (H1.out.below (hb.mono (Nat.le_refl _))).cells)
    refine wp_region_later W1.heap.size (Nat.le_refl _) (by kernel_rfl) (by kernel_rfl) ?_
    have q3 := fun x : Later W1.heap.size W1 => (HC.out _ x.ok).2.2.2.1
    repeat (first
      | go_big_quiet_step (first
        | (go_at_call 13; with_reducible exact quiet_later _ (Nat.le_refl _) (HN.out _ (Later.ok _)))))
    refine wpQuiet_nil ?_
    rintro _ ⟨lx, rfl⟩
    have hb2 := hid lx.ok
    clear q3 HN HC w1 w2
    generalize lx.wd = W2 at hb2 ⊢
    have H2 := hid (H1.out.below (hb2.out.mono (Nat.le_refl _)))
    have HX2 := hid ((hb2.out.block _ hgs).trans HX1.out)
    have HB2 := hid (below_after HB1.out hb2.out (Nat.le_refl _))
    clear H1 HX1 HB1 hb2 hgs
    obtain ⟨nb, hnbe⟩ : ∃ x, w.heap.size = x := ⟨_, rfl⟩
    rw [hnbe] at HX2 HB2 hnb ⊢
    have HNB := hid hnbe
    go_wp2_with fail
    go_loopw [27] (fun i wr => ∃ j : Nat, ∃ ys : List UInt8, j ≤ k ∧ i = .int .i64 j ∧ ys.length = k ∧ ys.take j = (getB m k).take j ∧ BufW wr gb g d m ∧ wr.heap[nb]? = some (.cells (by8 ys).toArray 5 (0, 0)) ∧ Below nb w wr) (fun i _ => k - (intOf i).toNat)
    case atStart => exact ⟨0, _, Nat.zero_le _, rfl, List.length_replicate, rfl, H2.out, HX2.out, HB2.out⟩
    case round =>
      obtain ⟨j, ys, hjk, rfl, hyl, hyt, hbw, hx, hb⟩ := hrel
      clear H2 HX2 HB2
      have H := hid hbw
      have HX := hid hx
      have HB := hid hb
      have HYL := hid hyl
      have HYT := hid hyt
      clear hbw hx hb hyl hyt
      by_cases hlt : j < k
      · have hgt := getB_take m k j hlt
        obtain ⟨z, hz⟩ : ∃ z, (m.beg + j) % m.R = z := ⟨_, rfl⟩
        have hzl : z < m.R := by rw [← hz]; exact Nat.mod_lt _ (by omega)
        obtain ⟨num, hnum⟩ : ∃ x, (m.f + M32 - m.n + j) % M32 = x := ⟨_, rfl⟩
        have PLA := hid (placeC_any gb g d m j num wr H.out HK.out (by rw [M32_eq]; omega) hnum)
        rw [hz] at hgt PLA
        have hxl : z < m.xs.length := by rw [HK.out.len]; exact hzl
        have u1 : (j : Int) % 4294967296 = (j : Int) := by omega
        have u2 : ((fs : Int) + (j : Int)) % 4294967296 = (num : Int) := by have h1 := HFS.out; rw [M32_eq] at h1 hnum; omega
        have hcell := by8_get m.xs z hxl
        obtain ⟨b, hbb⟩ : ∃ b, m.xs.getD z 0 = b := ⟨_, rfl⟩
        rw [hbb] at hgt hcell
        have HGT := hid hgt
        clear hz hnum hbb hxl hgt
        go_wp2_with fail
        simp only [u1, u2]
        (with_reducible refine Calls.mono PLA.out ?_)
        rintro e w4 ⟨rfl, hb4⟩
        have h4 := hid (H.out.below (hb4.mono (Nat.le_refl _)))
        have hx4 := (hb4.block _ (Array.getElem?_eq_some_iff.1 HX.out).1).trans HX.out
        have m4 := hid (below_after HB.out hb4 (Nat.le_of_eq HNB.out.symm))
        have rd := cellRow h4.out.dat z
        rw [List.getElem?_toArray, hcell] at rd
        have zf := frozRow hx4 j
        have oc := cellRow hx4 j
        rw [List.getElem?_toArray, by8_get ys j (by rw [HYL.out]; exact hlt)] at oc
        have HX4 := hid hx4
        clear hx4 hb4 H HX HB PLA hcell
        go_wp2_with fail
        have hxn := rowSetCell HX4.out j (.int .u8 (b.toNat : Int))
        rw [List.setIfInBounds_toArray] at hxn
        have h5 := hid (h4.out.far HX4.out (by decide) (by omega) (by omega) (by omega) j (.int .u8 (b.toNat : Int)))
        go_roundw
        case rel => exact ⟨j + 1, ys.set j b, by omega, by go_num, by rw [List.length_set]; exact HYL.out, by rw [set_take ys j b (by rw [HYL.out]; exact hlt), HYT.out, HGT.out], h5.out, by rw [by8_set]; exact hxn, m4.out.setCell (p := ⟨nb, j, none⟩) (Nat.le_refl _) _⟩
        case measure => simp [intOf]; omega
      · obtain rfl : j = k := by omega
        obtain rfl : ys = getB m j := by
          have h1 := HYT.out
          rwa [List.take_of_length_le (by rw [HYL.out]; exact Nat.le_refl _), List.take_of_length_le (by rw [getB_len]; exact Nat.le_refl _)] at h1
        obtain ⟨c0, c1, c2, c3, c4, c5⟩ := H.out.cells
        have z3 := frozRow H.out.blk 3
        have e1 : ((m.n : Int) - (j : Int)) = ((m.n - j : Nat) : Int) := by omega
        have zk := hkn
        clear hjk hlt hkn
        go_upto_region 12 with fail
        have H6 := hid (H.out.field 3 (.int .i64 ((m.n - j : Nat) : Int)) (m' := { m with n := m.n - j }) rfl rfl rfl rfl)
        have HX6 := hid ((rowSetCell_far (k := 3) (v := .int .i64 ((m.n - j : Nat) : Int)) (show gb ≠ nb by omega)).trans HX.out)
        have M6 := hid (((Mod.of_below (HNB.out.symm ▸ HB.out)).sub (N := [gb]) (by simp)).trans (Mod.setCell gb 3 (.int .i64 ((m.n - j : Nat) : Int)) (by simp)))
        clear H HX HB c0 c1 c2 c3 c4 c5 z3
        generalize wr.setCell _ _ = W6 at H6 HX6 M6 ⊢
        obtain ⟨c0, c1, c2, c3, c4, c5⟩ := H6.out.cells
        obtain ⟨z, hz⟩ : ∃ z, (m.beg + j) % m.R = z := ⟨_, rfl⟩
        have hzl : z < m.R := by rw [← hz]; exact Nat.mod_lt _ (by omega)
        have w5 : IntKind.i64.wrap ((m.beg : Int) + (j : Int)) = (m.beg : Int) + (j : Int) := by rw [IntKind.wrap_i64]; omega
        have w6 : Int.tmod ((m.beg + j : Nat) : Int) (m.R : Int) = (z : Int) := by rw [Int.tmod_eq_emod_of_nonneg (by omega), ← hz]; omega
        have w6' : Int.tmod ((m.beg : Int) + (j : Int)) (m.R : Int) = (z : Int) := by rw [← w6]; rfl
        have w7 : ((m.R : Int) == 0) = false := by rw [beq_eq_false_iff_ne]; omega
        have w8 : ¬ ((m.R : Int) = 0) := by omega
        have w9 : ¬ (m.R = 0) := by omega
        rw [hz] at HRB
        clear hz
        dsimp only at c0 c1 c2 c3 c4 c5
        go_still_tail 15, (by kernel_rfl)
        change wpList _ _ _ _ _ W6.drew
        have z2 : W6.drew.frozen? ⟨gb, 2, none⟩ = false := frozRow H6.out.blk 2
        have c2 : W6.drew.cell? ⟨gb, 2, none⟩ = some (.int .i64 (m.beg : Int)) := c2
        have H7 := hid ((H6.out.below (w' := W6.drew) (below_drewN (Below.refl _ _) 1)).field 2 (.int .i64 (z : Int)) (m' := { m with n := m.n - j, beg := z }) rfl rfl rfl rfl)
        have HX7 := hid (rowSetCell_far (k := 2) (v := .int .i64 (z : Int)) (show gb ≠ nb by omega) |>.trans (show W6.drew.heap[nb]? = _ from HX6.out))
        have M7 := hid (M6.out.trans ((Mod.drew (M := [gb])).trans (Mod.setCell gb 2 (.int .i64 (z : Int)) (by simp))))
        clear H6 HX6 M6 c0 c1 c3 c4 c5
        go_wp2_with fail
        go_ret
        have e9 := getB_len m j
        have h9 := OB.of_row (base := nb) HX7.out (Nat.le_refl _) (by rw [e9]; omega)
        rw [e9] at h9
        refine ⟨_, j, rfl, h9, ?_, M7.out⟩
        rw [HRB.out]
        exact H7.out
end Go.Proofs.Ytblkfpipmdfmkaa
