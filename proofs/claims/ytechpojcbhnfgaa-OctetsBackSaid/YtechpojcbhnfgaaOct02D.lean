/- Walk of the law OctetsBack. -/
import Derived.Test.YtechpojcbhnfgaaOct02C
namespace Go.Proofs.Ytechpojcbhnfgaa
set_option linter.unusedVariables false
set_option linter.unusedSimpArgs false
open Go.RowKit

set_option maxHeartbeats 2000000 in
theorem lawBack_any (size : Int) (v u : Value) (ns : List UInt64) (ys : List UInt8) (w : World) (hn : RN w v ns) (hy : RB w u ys) (s0 : -9223372036854775808 ≤ size) (s1 : size ≤ 9223372036854775807) :
    Calls Try.prog 4 #[.int .i64 size, v, u] w fun e w' => e = .returned (.bool true) ∧ Below w.heap.size w w' := by
  obtain ⟨B, cb, rfl, hrown⟩ := hn
  have hn : RN w (.slice B ns.length cb) ns := ⟨B, cb, rfl, hrown⟩
  have htop := hrown.top
  have hcap := hrown.cap
  by_cases h1 : 300 < ns.length
  · have hd : decide ((300 : Int) < (ns.length : Int)) = true := by simp; omega
    go_enter Try.func4, Try.ntmps4
    go_wp2_with (first
      | (go_at_call 8; refine (long_any _ ys _ ((hy.alloc _).alloc _)).mono ?_; rintro e w' ⟨rfl, rfl⟩)
      | (go_at_call 9; refine (alive_any _).mono ?_; rintro e w' ⟨rfl, hb⟩))
    go_ret
    exact ⟨rfl, below_after (below_alloc (below_alloc (Below.refl _ _) _ (Nat.le_refl _)) _ (Nat.le_refl _)) hb (Nat.le_refl _)⟩
  have hd : decide ((300 : Int) < (ns.length : Int)) = false := by simp; omega
  by_cases h2 : 3000 < ys.length
  · have hd2 : decide (3000 < ys.length) = true := by simpa using h2
    go_enter Try.func4, Try.ntmps4
    go_wp2_with (first
      | (go_at_call 8; refine (long_any _ ys _ ((hy.alloc _).alloc _)).mono ?_; rintro e w' ⟨rfl, rfl⟩)
      | (go_at_call 9; refine (alive_any _).mono ?_; rintro e w' ⟨rfl, hb⟩))
    go_ret
    exact ⟨rfl, below_after (below_alloc (below_alloc (Below.refl _ _) _ (Nat.le_refl _)) _ (Nat.le_refl _)) hb (Nat.le_refl _)⟩
  have hd2 : decide (3000 < ys.length) = false := by simpa using h2
  by_cases h3 : size < 0
  · have hd3 : decide (size < 0) = true := by simpa using h3
    go_enter Try.func4, Try.ntmps4
    go_wp2_with (first
      | (go_at_call 8; refine (long_any _ ys _ ((hy.alloc _).alloc _)).mono ?_; rintro e w' ⟨rfl, rfl⟩)
      | (go_at_call 9; refine (alive_any _).mono ?_; rintro e w' ⟨rfl, hb⟩))
    go_ret
    exact ⟨rfl, below_after (below_alloc (below_alloc (Below.refl _ _) _ (Nat.le_refl _)) _ (Nat.le_refl _)) hb (Nat.le_refl _)⟩
  have hd3 : decide (size < 0) = false := by simpa using h3
  by_cases h4 : 8 < size
  · have hd4 : decide (8 < size) = true := by simpa using h4
    go_enter Try.func4, Try.ntmps4
    go_wp2_with (first
      | (go_at_call 8; refine (long_any _ ys _ ((hy.alloc _).alloc _)).mono ?_; rintro e w' ⟨rfl, rfl⟩)
      | (go_at_call 9; refine (alive_any _).mono ?_; rintro e w' ⟨rfl, hb⟩))
    go_ret
    exact ⟨rfl, below_after (below_alloc (below_alloc (Below.refl _ _) _ (Nat.le_refl _)) _ (Nat.le_refl _)) hb (Nat.le_refl _)⟩
  have hd4 : decide (8 < size) = false := by simpa using h4
  obtain ⟨k, rfl⟩ := Int.eq_ofNat_of_zero_le (show 0 ≤ size by omega)
  have hk : k ≤ 8 := by omega
  have hcl : clampN (k : Int) = k := by unfold clampN; rw [if_neg h3, if_neg h4]; rfl
  have hll := beL_length k ns
  obtain ⟨L, hL⟩ : ∃ L, beL k ns = L := ⟨_, rfl⟩
  obtain ⟨LB, hLB⟩ : ∃ LB, L ++ ys = LB := ⟨_, rfl⟩
  have hllb : LB.length = L.length + ys.length := by rw [← hLB, List.length_append]
  rw [hL] at hll
  have hlm : k * ns.length ≤ 2400 := by
    have h5 := Nat.mul_le_mul hk (show ns.length ≤ 300 by omega)
    omega
  have hmul : ((k : Int) * (ns.length : Int)) = ((L.length : Nat) : Int) := by rw [hll]; simp
  have hL24 : L.length ≤ 2400 := by omega
  have HLL := hid hll
  have HLB := hid hLB
  have HL := hid hL
  have HCL := hid hcl
  have HLLB := hid hllb
  have HMUL := hid hmul
  clear hll hLB hL hcl hlm hllb hmul
  go_enter Try.func4, Try.ntmps4
  go_wp2_with (go_at_call 8; refine (long_any _ ys _ ((hy.alloc _).alloc _)).mono ?_; rintro e w' ⟨rfl, rfl⟩)
  obtain ⟨W0, hW0, f0, f1, fb0, fs0⟩ := two_blocks w (.cells #[.int .i64 (k : Int)] 3) (.cells #[.slice B ns.length cb] 23)
  rw [← hW0]
  clear hW0
  refine (put_any _ _ [] (k : Int) ns W0 (RB.nil _) (hn.below fb0) (by omega) (by omega) (by simp; omega)).mono ?_
  rw [HCL.out, HL.out, List.nil_append]
  rintro e w1 ⟨A1, c1, rfl, ho1, hb1⟩
  have hmul := HMUL.out
  have g0 := (hb1.block _ (by omega)).trans f0
  have g1 := (hb1.block _ (by omega)).trans f1
  have d0 := cell_of_row w1 _ 0 _ _ _ g0
  have d1 := cell_of_row w1 _ 0 _ _ _ g1
  simp only [List.getElem?_toArray, List.getElem?_cons_zero] at d0 d1
  have FB1 := below_after fb0 hb1 (Nat.le_refl _)
  go_wp2_with (at_builtin; refine append_u8 (.tmp 37) (.tmp 38) W0.heap.size L ys LB HLB.out rfl rfl rfl rfl ho1 (hy.below FB1) (by omega) hb1.size ?_; intro A2 c2 w2 ho2 hb2 _ _)
  have FB2 := FB1.trans (hb2.mono fb0.size)
  refine (read_any _ LB w2 ho2.rb (by have := HLLB.out; omega)).mono ?_
  rintro e w3 ⟨g, rfl, hg, hr3, hb3⟩
  have FB3 := below_after FB2 hb3 (Nat.le_refl _)
  have hs1 := hb1.size
  have hs2 := hb2.size
  have hs3 := hb3.size
  have i0' := (hb3.block _ (by omega)).trans ((hb2.block _ (by omega)).trans g0)
  have i1' := (hb3.block _ (by omega)).trans ((hb2.block _ (by omega)).trans g1)
  have hmf : ∀ (fn : Fn) (first cap : Array Value) (w : World), (Instr.makeFunc fn first cap).run Try.prog w = .ok (.func fn first cap) w := fun _ _ _ _ => rfl
  clear d0 d1 g0 g1 f0 f1
  go_wp2_with fail
  obtain ⟨W, hW, f2, f3, fb, fs⟩ := two_blocks w3 (.cells #[.pointer (some ⟨g, 0, none⟩)] 31) (.cells #[.bool true] 4)
  rw [← hW]
  clear hW
  have hgl := hr3.lt
  have hrW := hr3.below fb
  have j0 := (fb.block _ (by omega)).trans i0'
  have j1 := (fb.block _ (by omega)).trans i1'
  have FBW := below_after FB3 fb (Nat.le_refl _)
  refine (try_any 16 _ W (fun b w' => b = true ∧ Rdr w' g ys ∧ W.grownBy w' (some g) ∧ W.heap.size + 1 ≤ w'.heap.size) (fun w => by kernel_rfl) ?_).mono ?_
  · have hA := below_alloc (Below.refl W.heap.size W) (.cells #[.int .i64 0] 33) (Nat.le_refl _)
    have k0 := (hA.block _ (by omega)).trans j0
    have k1 := (hA.block _ (by omega)).trans j1
    have k2 := (hA.block _ (by omega)).trans f2
    have k3 := (hA.block _ (by omega)).trans f3
    have k4 := heap_alloc_new W (.cells #[.int .i64 0] 33)
    have hsz : (W.alloc (.cells #[.int .i64 0] 33)).heap.size = W.heap.size + 1 := by simp
    have hrA := hrW.below hA
    have hnA := (hn.below FBW).below hA
    generalize W.alloc (.cells #[.int .i64 0] 33) = WA at hA k0 k1 k2 k3 k4 hsz hrA hnA ⊢
    rw [← HLB.out, ← HL.out] at hrA
    refine (back1_any (w.heap.size + 1) w.heap.size (w3.heap.size + 1) w3.heap.size _ ns k g hk ys WA k1 hnA k0 k3 k2 hrA).mono ?_
    rintro e w' ⟨rfl, hr', hg', hs'⟩
    exact ⟨(hg'.block _ (by omega) (by simp; omega)).trans k4, .inl ⟨rfl, rfl, hr', World.grownBy.trans ⟨hA.os, hA.tape, hA.output, hA.size, fun q hq _ => hA.block q hq⟩ hg', by omega⟩⟩
  · rintro e w4 ⟨b, w5, ⟨rfl, hr5, hg5, hs5⟩, rfl, hg6, hB6⟩
    have hs6 := hg6.size
    have e2 := (hg6.block _ (by omega) (by simp; omega)).trans ((hg5.block _ (by omega) (by simp; omega)).trans f2)
    have e3 := (hg6.block _ (by omega) (by simp; omega)).trans ((hg5.block _ (by omega) (by simp; omega)).trans f3)
    have d2 := cell_of_row w4 _ 0 _ _ _ e2
    have d3 := cell_of_row w4 _ 0 _ _ _ e3
    simp only [List.getElem?_toArray, List.getElem?_cons_zero] at d2 d3
    have FB4 : Below w.heap.size w w4 := (FBW.grown hg5 FBW.size (fun q hq => by injection hq with hq; have := FB2.size; omega)).grown hg6 (by have := FBW.size; omega) (fun q hq => by injection hq with hq; have := FBW.size; omega)
    have hr6 : Rdr w4 g ys := hr5.grownNe hg6 hB6
    obtain ⟨A3, c3, rfl, hrow3⟩ := hy
    have hcap3 := hrow3.cap
    have htop3 := hrow3.top
    go_wp2_with (first
      | (go_at_call 18; refine (left_any g ys _ hr6).mono ?_; rintro e w' ⟨rfl, rfl⟩)
      | (go_at_call 9; refine (alive_any _).mono ?_; rintro e w7 ⟨rfl, hb7⟩))
    go_ret
    exact ⟨rfl, below_after FB4 hb7 (Nat.le_refl _)⟩
end Go.Proofs.Ytechpojcbhnfgaa
