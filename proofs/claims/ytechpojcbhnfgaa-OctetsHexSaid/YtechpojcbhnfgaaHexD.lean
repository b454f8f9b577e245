/- Walk of the law OctetsHex. -/
import Derived.Test.YtechpojcbhnfgaaHexC
import Derived.Test.YtechpojcbhnfgaaOct02A
namespace Go.Proofs.Ytechpojcbhnfgaa
set_option linter.unusedVariables false
set_option linter.unusedSimpArgs false
open Go.RowKit

theorem equal_any (u v : Value) (xs ys : List UInt8) (w : World) (hx : RB w u xs) (hy : RB w v ys) :
    Calls Try.prog 34 #[u, v] w fun e w' => e = .returned (.bool ((strOf xs).toList == (strOf ys).toList)) ∧ w = w' := by
  have q1 := hid (conv_str hx)
  have q2 := hid (conv_str hy)
  obtain ⟨A, c, rfl, _⟩ := hx
  obtain ⟨B, d, rfl, _⟩ := hy
  go_enter Try.func34, Try.ntmps34
  go_wp2_with fail
  rw [q1.out]
  go_wp2_with fail
  rw [q2.out]
  go_wp2_with fail
  go_ret
  exact ⟨rfl, rfl⟩
theorem same_any (u v : Value) (xs ys : List UInt8) (w : World) (hx : RB w u xs) (hy : RB w v ys) :
    Calls Try.prog 26 #[u, v] w fun e w' => e = .returned (.bool ((strOf xs).toList == (strOf ys).toList)) ∧ w = w' := by
  go_enter Try.func26, Try.ntmps26
  go_wp2_with fail
  refine (equal_any u v xs ys w hx hy).mono ?_
  rintro e w' ⟨rfl, rfl⟩
  go_wp2_with fail
  go_ret
  exact ⟨rfl, rfl⟩
def errOf (o : Option (List UInt8)) : Int := if o.isSome then 0 else 3
theorem unhexV_ob {w : World} {base : Nat} {o : Option (List UInt8)} {e : Ending} (h : unhexV w base o e) : ∃ A c, e = .returned (.tuple #[.slice A (o.getD []).length c, .int .i64 (errOf o)]) ∧ OB w base (.slice A (o.getD []).length c) (o.getD []) := by
  cases o with
  | none => exact ⟨none, 0, h, OB.nil _ _⟩
  | some ys => exact h

set_option maxHeartbeats 4000000 in
theorem lawHex_any (u v : Value) (xs zs ss : List UInt8) (w : World) (hx : RB w u xs) (hz : RB w v zs) (hs : ss.length ≤ 9223372036854775807) :
    Calls Try.prog 7 #[u, v, .string (strOf ss)] w fun e w' => e = .returned (.bool true) ∧ Below w.heap.size w w' := by
  have hsz := strOf_size ss
  by_cases h1 : 3000 < xs.length
  · have hd : decide (3000 < xs.length) = true := by simpa using h1
    go_enter Try.func7, Try.ntmps7
    go_wp2_with fail
    refine (long_any _ xs _ hx).mono ?_
    rintro e w' ⟨rfl, rfl⟩
    go_wp2_with fail
    refine (alive_any _).mono ?_
    rintro e w' ⟨rfl, hb⟩
    go_wp2_with fail
    go_ret
    exact ⟨rfl, hb⟩
  have hd : decide (3000 < xs.length) = false := by simpa using h1
  by_cases h2 : 3000 < zs.length
  · have hd2 : decide (3000 < zs.length) = true := by simpa using h2
    go_enter Try.func7, Try.ntmps7
    go_wp2_with fail
    refine (long_any _ xs _ hx).mono ?_
    rintro e w' ⟨rfl, rfl⟩
    go_wp2_with fail
    refine (long_any _ zs _ hz).mono ?_
    rintro e w' ⟨rfl, rfl⟩
    go_wp2_with fail
    refine (alive_any _).mono ?_
    rintro e w' ⟨rfl, hb⟩
    go_wp2_with fail
    go_ret
    exact ⟨rfl, hb⟩
  have hd2 : decide (3000 < zs.length) = false := by simpa using h2
  by_cases h3 : 3000 < ss.length
  · have hd3 : (3000 : Int) < ((strOf ss).size : Int) := by rw [hsz]; omega
    go_enter Try.func7, Try.ntmps7
    go_wp2_with fail
    refine (long_any _ xs _ hx).mono ?_
    rintro e w' ⟨rfl, rfl⟩
    go_wp2_with fail
    refine (long_any _ zs _ hz).mono ?_
    rintro e w' ⟨rfl, rfl⟩
    go_wp2_with fail
    refine (alive_any _).mono ?_
    rintro e w' ⟨rfl, hb⟩
    go_wp2_with fail
    go_ret
    exact ⟨rfl, hb⟩
  have hd3 : ¬ (3000 : Int) < ((strOf ss).size : Int) := by rw [hsz]; omega
  go_enter Try.func7, Try.ntmps7
  go_wp2_with fail
  refine (long_any _ xs _ hx).mono ?_
  rintro e w' ⟨rfl, rfl⟩
  go_wp2_with fail
  refine (long_any _ zs _ hz).mono ?_
  rintro e w' ⟨rfl, rfl⟩
  go_wp2_with fail
  refine (unhex_any ss w (by omega)).mono ?_
  rintro e w1 ⟨hv1, hb1⟩
  obtain ⟨A1, c1, rfl, ho1⟩ := unhexV_ob hv1
  go_wp2_with fail
  refine (runhex_any ss w1 (by omega)).mono ?_
  rintro e w2 ⟨hv2, hb2⟩
  obtain ⟨A2, c2, rfl, ho2⟩ := unhexV_ob hv2
  have HB2 := below_after hb1 hb2 (Nat.le_refl _)
  have hx2 := hx.below HB2
  have hz2 := hz.below HB2
  have r1 := ho1.rb.below hb2
  have r2 := ho2.rb
  clear hv1 hv2
  generalize (unhexOf ss).getD [] = ys at *
  generalize errOf (unhexOf ss) = er at *
  go_wp2_with fail
  go_region_held3 (fun W => (convert 22 9 (.slice A1 ys.length c1)).run Try.prog W = .ok (.string (strOf ys)) W ∧ (convert 22 9 (.slice A2 ys.length c2)).run Try.prog W = .ok (.string (strOf ys)) W ∧
      (convert 22 9 u).run Try.prog W = .ok (.string (strOf xs)) W ∧ (convert 22 9 v).run Try.prog W = .ok (.string (strOf zs)) W)
    (first
      | exact ⟨conv_str (r1.drewN 1), conv_str (r2.drewN 1), conv_str (hx2.drewN 1), conv_str (hz2.drewN 1)⟩
      | exact ⟨conv_str (((r1.below hb3).drewN n4).below hb5), conv_str (((r2.below hb3).drewN n4).below hb5), conv_str (((hx2.below hb3).drewN n4).below hb5), conv_str (((hz2.below hb3).drewN n4).below hb5)⟩
      | exact ⟨conv_str ((r1.below hb3).drewN n4), conv_str ((r2.below hb3).drewN n4), conv_str ((hx2.below hb3).drewN n4), conv_str ((hz2.below hb3).drewN n4)⟩
      | exact ⟨conv_str (r1.below hb3), conv_str (r2.below hb3), conv_str (hx2.below hb3), conv_str (hz2.below hb3)⟩)
    (first
    | (go_at_call 23; refine (hex_any u xs _ (hx2.drewN 1) (by omega)).mono ?_; rintro e w3 ⟨rfl, hb3⟩; replace hb3 : Below w2.heap.size w2 w3 := below_after ((Below.refl _ _).drew) hb3 (Nat.le_refl _))
    | (go_at_call 25; refine (rhex_any u xs w3 (hx2.below hb3) (by omega)).mono ?_; rintro e w4 ⟨rfl, n4, rfl⟩)
    | (go_at_call 26; refine (same_any u v xs zs _ ((hx2.below hb3).drewN n4) ((hz2.below hb3).drewN n4)).mono ?_; rintro e w4 ⟨rfl, rfl⟩)
    | (go_at_call 9; refine (alive_any _).mono ?_; rintro e w5 ⟨rfl, hb5⟩)
    | fail)
  all_goals
    have hb6 := below_after (below_drewN hb3 n4) hb5 (Nat.le_refl _)
    go_wp2_with fail
    go_ret
    exact ⟨rfl, below_after HB2 hb6 (Nat.le_refl _)⟩
end Go.Proofs.Ytechpojcbhnfgaa
