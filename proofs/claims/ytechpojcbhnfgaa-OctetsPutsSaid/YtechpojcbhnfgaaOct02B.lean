/- Walk of the law OctetsPuts. -/
import Derived.Test.YtechpojcbhnfgaaOct02A
import Derived.Test.YtechpojcbhnfgaaStr
import Derived.Deep.RegionHeld3
namespace Go.Proofs.Ytechpojcbhnfgaa
set_option linter.unusedVariables false
set_option linter.unusedSimpArgs false
open Go.RowKit

set_option maxHeartbeats 4000000 in
theorem lawPuts_any (u v : Value) (xs : List UInt8) (size : Int) (ns : List UInt64) (w : World) (hx : RB w u xs) (hn : RN w v ns) (s0 : -9223372036854775808 ≤ size) (s1 : size ≤ 9223372036854775807) :
    Calls Try.prog 3 #[u, .int .i64 size, v] w fun e w' => e = .returned (.bool true) ∧ Below w.heap.size w w' := by
  by_cases h1 : 3000 < xs.length
  · have hd : decide (3000 < xs.length) = true := by simpa using h1
    go_enter Try.func3, Try.ntmps3
    go_wp2_with fail
    refine (long_any _ xs _ hx).mono ?_
    rintro e w' ⟨rfl, rfl⟩
    go_wp2_with fail
    refine (alive_any _).mono ?_
    rintro e w' ⟨rfl, hb⟩
    go_wp2_with fail
    go_ret
    exact ⟨rfl, hb⟩
  have hn0 := hn
  obtain ⟨B, cb, rfl, hrown⟩ := hn
  have htop := hrown.top
  have hcap := hrown.cap
  have hd : decide (3000 < xs.length) = false := by simpa using h1
  by_cases h2 : 300 < ns.length
  · have hd2 : decide ((300 : Int) < (ns.length : Int)) = true := by simp; omega
    go_enter Try.func3, Try.ntmps3
    go_wp2_with fail
    refine (long_any _ xs _ hx).mono ?_
    rintro e w' ⟨rfl, rfl⟩
    go_wp2_with fail
    refine (alive_any _).mono ?_
    rintro e w' ⟨rfl, hb⟩
    go_wp2_with fail
    go_ret
    exact ⟨rfl, hb⟩
  have hd2 : decide ((300 : Int) < (ns.length : Int)) = false := by simp; omega
  go_enter Try.func3, Try.ntmps3
  go_wp2_with fail
  refine (long_any _ xs _ hx).mono ?_
  rintro e w' ⟨rfl, rfl⟩
  go_wp2_with fail
  obtain ⟨L, hL⟩ : ∃ L, xs ++ beL (clampN size) ns = L := ⟨_, rfl⟩
  have HP := hid (fun W (hb : Below w.heap.size w W) => put_any u _ xs size ns W (hx.below hb) (hn0.below hb) s0 s1 (by omega))
  have HQ := hid (fun W (hb : Below w.heap.size w W) => rput_any u _ xs size ns W (hx.below hb) (hn0.below hb) s0 s1 (by omega))
  rw [hL] at HP HQ
  clear hL
  go_region_with (first
    | (go_at_call 10; refine (HP.out _ ?_).mono ?_; (first | exact (Below.refl _ _).drew | exact below_drewN (Below.refl _ _) _); rintro e w1 ⟨A1, c1, rfl, ho1, hb1⟩; have q1 := conv_str ho1.rb)
    | (go_at_call 11; refine (HQ.out _ ?_).mono ?_; exact below_after ((Below.refl _ _).drew) hb1 (Nat.le_refl _); rintro e w2 ⟨A2, c2, rfl, ho2, hb2⟩; have q2 := conv_str ho2.rb; have q12 := conv_str (ho1.rb.below hb2); have HB2 := below_after (below_after ((Below.refl w.heap.size w).drew) hb1 (Nat.le_refl _)) hb2 (Nat.le_refl _))
    | (go_at_call 12; refine (get_any _ xs _ (hx.below HB2)).mono ?_; rintro e w3 ⟨rfl, rfl⟩)
    | (go_at_call 13; refine (rget_any _ xs _ (hx.below HB2)).mono ?_; rintro e w4 ⟨rfl, rfl⟩)
    | (go_at_call 9; refine (alive_any _).mono ?_; rintro e w5 ⟨rfl, hb5⟩))
  all_goals
    go_wp2_with fail
    go_ret
    exact ⟨rfl, below_after HB2 hb5 (Nat.le_refl _)⟩
end Go.Proofs.Ytechpojcbhnfgaa
