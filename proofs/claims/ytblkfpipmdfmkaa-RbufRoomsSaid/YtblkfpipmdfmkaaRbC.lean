/- Walk: the bytes that are in a buffer's window. -/
import Derived.Test.YtblkfpipmdfmkaaRbB
import Derived.Test.YtblkfpipmdfmkaaSlc
namespace Go.Proofs.Ytblkfpipmdfmkaa
set_option linter.unusedVariables false
set_option linter.unusedSimpArgs false
open Go.RowKit

theorem drewN_two (w : World) (a b : Nat) : (w.drewN a).drewN b = w.drewN (a + b) := by simp [World.drewN, Nat.add_assoc]
theorem diffB_back (f s : Nat) (hf : f < M32) (hs : s < M32) (h : ¬ diffB f s < 0) : (f + (diffB f s).toNat) % M32 = s := by
  have hf' : f < 4294967296 := hf
  have hs' : s < 4294967296 := hs
  have e : (f + (diffB f s).toNat) % 4294967296 = s := by
    unfold diffB aheadS at *
    split at h
    · rename_i hx
      rw [if_pos hx]
      omega
    · omega
  exact e
/-- b[:h], in every world in which b can be read. -/
theorem cut_hW {w : World} {A : Option Addr} {n c : Nat} {b : List UInt8} (hx : RB w (.slice A n c) b) (h : Nat) (H : Int) (hH : H = (h : Int)) (h2 : h ≤ b.length) :
    ∃ B k, (∀ W, (Instr.slice 32 (.slice A n c) none (some (.int .i64 H)) none).run Try.prog W = .ok (.slice B h k) W) ∧ RB w (.slice B h k) (b.take h) ∧ (∀ W, RB W (.slice A n c) b → RB W (.slice B h k) (b.take h)) := by
  subst hH
  obtain ⟨i0, hi0, hz0, hz1, hz2⟩ := info_parts info_u8
  have hc : b.length ≤ c := by
    obtain ⟨A', c', e, r⟩ := hx
    injection e with e1 e2 e3
    subst e3
    exact r.cap
  have h3 := slice_h (P := Try.prog) 32 5 .i64 Try.underlying32 hi0 1 hz1 A n c (h : Int) (by omega) (by omega)
  simp only [Int.toNat_natCast, Nat.sub_zero] at h3
  have h4 := fun W (hw : RB W (.slice A n c) b) => hw.part 0 h (by omega)
  simp only [List.drop_zero] at h4
  exact ⟨_, _, h3, h4 w hx, h4⟩
/-- b[l:], in every world in which b can be read. -/
theorem cut_lW {w : World} {A : Option Addr} {c : Nat} {b : List UInt8} (hx : RB w (.slice A b.length c) b) (l : Nat) (L : Int) (hL : L = (l : Int)) (h1 : l ≤ b.length) :
    ∃ B k, (∀ W, (Instr.slice 32 (.slice A b.length c) (some (.int .i64 L)) none none).run Try.prog W = .ok (.slice B (b.length - l) k) W) ∧ RB w (.slice B (b.length - l) k) (b.drop l) ∧ (∀ W, RB W (.slice A b.length c) b → RB W (.slice B (b.length - l) k) (b.drop l)) := by
  subst hL
  obtain ⟨i0, hi0, hz0, hz1, hz2⟩ := info_parts info_u8
  have h3 := slice_from (P := Try.prog) 32 5 .i64 Try.underlying32 hi0 1 hz1 A b.length c l h1
  have h4 := fun W (hw : RB W (.slice A b.length c) b) => hw.part l (b.length - l) (by omega)
  simp only [List.take_of_length_le (show (b.drop l).length ≤ b.length - l by rw [List.length_drop]; omega)] at h4
  exact ⟨_, _, h3, h4 w hx, h4⟩
set_option maxRecDepth 20000 in
set_option maxHeartbeats 2000000 in
theorem within_any (gb g d : Nat) (m : BufP) (s : Nat) (A : Option Addr) (c : Nat) (p : List UInt8) (w : World) (h : BufW w gb g d m) (hk : BOk m) (hs : s < 4294967296) (hp : RB w (.slice A p.length c) p) (hpl : p.length ≤ 1000000) :
    Calls Try.prog 28 #[.pointer (some ⟨gb, 0, none⟩), .int .u32 (s : Int), .slice A p.length c] w fun e w' =>
      ∃ A' c', e = .returned (.tuple #[.int .u32 (((m.f + (withinB m s p).1) % M32 : Nat) : Int), .slice A' (withinB m s p).2.length c']) ∧ (∀ W, RB W (.slice A p.length c) p → RB W (.slice A' (withinB m s p).2.length c') (withinB m s p).2) ∧ ∃ k, w' = w.drewN k := by
  have HN := hid (bufnext_any gb g d m w h)
  have HW := hid (bufwin_any gb g d m w h hk)
  have h5 : m.f < 4294967296 := hk.f
  have HD := hid (diff_any m.f s h5 hs w)
  have HR := hid hp
  have hr2 := hk.r2
  have hDl : -2147483648 ≤ diffB m.f s ∧ diffB m.f s < 2147483648 := by
    have : aheadS m.f s < 4294967296 := Nat.mod_lt _ (by decide)
    unfold diffB
    split <;> omega
  have hback := diffB_back m.f s hk.f hs
  have hff : m.f % M32 = m.f := Nat.mod_eq_of_lt hk.f
  unfold withinB
  generalize diffB m.f s = D at HD hDl hback ⊢
  generalize hL : m.R - m.n = L at HW ⊢
  have hLl : L ≤ 8192 := by omega
  clear hL h hk hp h5
  have w1 : IntKind.i64.wrap D = D := by rw [IntKind.wrap_i64]; omega
  have HFF := hid hff
  have HBK := hid hback
  clear hff hback
  by_cases hneg : D < 0
  · rw [if_pos hneg]
    obtain ⟨k, hkk⟩ : ∃ k, min (-D).toNat p.length = k := ⟨_, rfl⟩
    rw [hkk]
    have t1 : decide (D < 0) = true := decide_eq_true hneg
    have a1 : min (-D) (p.length : Int) = (k : Int) := by omega
    have a2 : (if (p.length : Int) < -D then (p.length : Int) else -D) = (k : Int) := by split <;> omega
    have a3 : (if -D < (p.length : Int) then -D else (p.length : Int)) = (k : Int) := by split <;> omega
    have a4 : (if -D ≤ (p.length : Int) then -D else (p.length : Int)) = (k : Int) := by split <;> omega
    have w2 : IntKind.i64.wrap (-D) = -D := by rw [IntKind.wrap_i64]; omega
    obtain ⟨B1, k1, hc1, hr1, hW1⟩ := cut_lW HR.out k (k : Int) rfl (by omega)
    have hlen1 : (p.drop k).length = p.length - k := List.length_drop
    have HR1 := hid hr1
    obtain ⟨n1, hn1⟩ : ∃ n, p.length - k = n := ⟨_, rfl⟩
    rw [hn1] at hc1 HR1 hlen1 hW1
    obtain ⟨j, hj⟩ : ∃ j, min L n1 = j := ⟨_, rfl⟩
    have HT := hid (show (p.drop k).take L = (p.drop k).take j by rw [← hj, ← hlen1]; simp [List.take_eq_take_iff])
    obtain ⟨B2, k2, hc2, hr2', hW2⟩ := cut_hW HR1.out j (j : Int) rfl (by omega)
    have HJ := hid (show ((p.drop k).take j).length = j by rw [List.length_take]; omega)
    have b1 : min (L : Int) (n1 : Int) = (j : Int) := by omega
    have b2 : (if (n1 : Int) < (L : Int) then (n1 : Int) else (L : Int)) = (j : Int) := by split <;> omega
    have b3 : (if (L : Int) < (n1 : Int) then (L : Int) else (n1 : Int)) = (j : Int) := by split <;> omega
    have b5 : (if n1 < L then (n1 : Int) else (L : Int)) = (j : Int) := by split <;> omega
    have b4 : (if (L : Int) ≤ (n1 : Int) then (L : Int) else (n1 : Int)) = (j : Int) := by split <;> omega
    have HR2 := hid (fun W h => hW2 W (hW1 W h))
    clear hr1 hr2' hkk hj hn1 hW1 hW2
    go_enter Try.func28, Try.ntmps28
    go_wp2_with fail
    (with_reducible refine Calls.mono HN.out ?_)
    rintro e w' ⟨rfl, rfl⟩
    go_wp2_with fail
    (with_reducible refine Calls.mono HD.out ?_)
    rintro e w' ⟨rfl, rfl⟩
    go_wp2_with fail
    (with_reducible refine Calls.mono HN.out ?_)
    rintro e w' ⟨rfl, rfl⟩
    go_wp2_with fail
    (with_reducible refine Calls.mono HW.out ?_)
    rintro e w' ⟨rfl, kk, rfl⟩
    go_wp2_with fail
    go_quiet (fail)
    go_wp2_with fail
    go_ret2
    refine ⟨B2, k2, ?_, ?_, ⟨_, drewN_two w _ _⟩⟩
    · simp only [HT.out, HJ.out, Nat.add_zero, HFF.out]
      rfl
    · simp only [HT.out, HJ.out]
      exact HR2.out
  · rw [if_neg hneg]
    have hb2 := HBK.out hneg
    obtain ⟨a, ha⟩ : ∃ a, D.toNat = a := ⟨_, rfl⟩
    rw [ha] at hb2 ⊢
    have hDa : D = (a : Int) := by omega
    subst hDa
    have HB2 := hid hb2
    have t1 : decide ((a : Int) < 0) = false := by rw [decide_eq_false_iff_not]; omega
    obtain ⟨L2, hL2⟩ : ∃ x, L - a = x := ⟨_, rfl⟩
    rw [hL2]
    have a1 : max ((L : Int) - (a : Int)) 0 = (L2 : Int) := by omega
    have a2 : (if (L : Int) - (a : Int) < 0 then 0 else (L : Int) - (a : Int)) = (L2 : Int) := by split <;> omega
    have a3 : (if (0 : Int) < (L : Int) - (a : Int) then (L : Int) - (a : Int) else 0) = (L2 : Int) := by split <;> omega
    have w3 : IntKind.i64.wrap ((L : Int) - (a : Int)) = (L : Int) - (a : Int) := by rw [IntKind.wrap_i64]; omega
    have al : a < 2147483648 := by omega
    obtain ⟨n1, hn1⟩ : ∃ n, p.length = n := ⟨_, rfl⟩
    obtain ⟨j, hj⟩ : ∃ j, min L2 n1 = j := ⟨_, rfl⟩
    have HT := hid (show p.take L2 = p.take j by rw [← hj, ← hn1]; simp [List.take_eq_take_iff])
    obtain ⟨B2, k2, hc2, hr2', hW2⟩ := cut_hW HR.out j (j : Int) rfl (by omega)
    have HJ := hid (show (p.take j).length = j by rw [List.length_take]; omega)
    have b1 : min (L2 : Int) (n1 : Int) = (j : Int) := by omega
    have b2 : (if (n1 : Int) < (L2 : Int) then (n1 : Int) else (L2 : Int)) = (j : Int) := by split <;> omega
    have b3 : (if (L2 : Int) < (n1 : Int) then (L2 : Int) else (n1 : Int)) = (j : Int) := by split <;> omega
    have b5 : (if n1 < L2 then (n1 : Int) else (L2 : Int)) = (j : Int) := by split <;> omega
    have b4 : (if (L2 : Int) ≤ (n1 : Int) then (L2 : Int) else (n1 : Int)) = (j : Int) := by split <;> omega
    have HR2 := hid hW2
    rw [hn1] at hc2 HR2 ⊢
    clear hr2' hj hn1 hb2 ha hL2 HR hW2
    go_enter Try.func28, Try.ntmps28
    go_wp2_with fail
    (with_reducible refine Calls.mono HN.out ?_)
    rintro e w' ⟨rfl, rfl⟩
    go_wp2_with fail
    (with_reducible refine Calls.mono HD.out ?_)
    rintro e w' ⟨rfl, rfl⟩
    go_wp2_with fail
    (with_reducible refine Calls.mono HW.out ?_)
    rintro e w' ⟨rfl, kk, rfl⟩
    go_wp2_with fail
    go_quiet (fail)
    go_wp2_with fail
    go_ret2
    refine ⟨B2, k2, ?_, ?_, ⟨_, drewN_two w _ _⟩⟩
    · simp only [HT.out, HJ.out, HB2.out]
      rfl
    · simp only [HT.out, HJ.out]
      exact HR2.out
end Go.Proofs.Ytblkfpipmdfmkaa
