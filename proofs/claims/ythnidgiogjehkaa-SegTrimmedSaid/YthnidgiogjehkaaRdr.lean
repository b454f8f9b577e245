/- A reader whose bytes stand in a block that is known. -/
import Derived.Test.YthnidgiogjehkaaOctB
import Derived.Test.YthnidgiogjehkaaMod
namespace Go.Proofs.Ythnidgiogjehkaa
set_option linter.unusedVariables false
set_option linter.unusedSimpArgs false
set_option maxRecDepth 20000
open Go.RowKit

def RdrD (w : World) (g d : Nat) (xs : List UInt8) : Prop :=
  ∃ A c, w.heap[g]? = some (.cells #[.slice A xs.length c] 110 (0, 0)) ∧ Row w 1 A xs.length c (by8 xs) ∧ InB A d
theorem RdrD.rdr {w : World} {g d : Nat} {xs : List UInt8} (h : RdrD w g d xs) : Rdr w g xs := by obtain ⟨A, c, h1, h2, _⟩ := h; exact ⟨A, c, h1, h2⟩
theorem RdrD.lt {w : World} {g d : Nat} {xs : List UInt8} (h : RdrD w g d xs) : g < w.heap.size := h.rdr.lt
theorem RdrD.mod {w w' : World} {g d : Nat} {xs : List UInt8} {M : List Nat} (h : RdrD w g d xs) (hm : Mod M w w') (hg : g ∉ M) (hd : d ∉ M) : RdrD w' g d xs := by
  obtain ⟨A, c, h1, h2, h3⟩ := h
  exact ⟨A, c, hm.keeps h1 hg, h2.mod hm h3 hd, h3⟩
theorem RdrD.below {w w' : World} {g d : Nat} {xs : List UInt8} (h : RdrD w g d xs) (hb : Below w.heap.size w w') : RdrD w' g d xs := h.mod (Mod.of_below hb) (by simp) (by simp)
set_option maxHeartbeats 400000 in
theorem bytesD (g d : Nat) (xs : List UInt8) (k : Nat) (hk0 : 0 < k) (hk : k ≤ xs.length) (w : World) (h : RdrD w g d xs) :
    Calls Try.prog 80 #[.pointer (some ⟨g, 0, none⟩), .int .i64 (k : Int)] w fun e w' => ∃ A, e = .returned (.slice A k k) ∧ RB w' (.slice A k k) (xs.take k) ∧ InB A d ∧ RdrD w' g d (xs.drop k) ∧ w.grownBy w' (some g) ∧ w'.heap.size = w.heap.size := by
  have HL := hid (left_any g xs w h.rdr)
  obtain ⟨A, c, hg, hr, hA⟩ := h
  obtain ⟨i0, hi0, hz0, hz1, hz2⟩ := info_parts info_u8
  have hc := cell_of_row w g 0 _ _ _ hg
  have hf : w.frozen? ⟨g, 0, none⟩ = false := by simp [World.frozen?, hg]
  simp only [List.getElem?_toArray, List.getElem?_cons_zero] at hc
  have hcap := hr.cap
  have htop := hr.top
  have h0 : ¬ (k : Int) < 0 := by omega
  have hd : decide ((xs.length : Int) < (k : Int)) = false := by simp; omega
  have hd' : decide (xs.length < k) = false := by simp; omega
  have he : ((k : Int) == 0) = false := by simp; omega
  have hcut := slice_from (P := Try.prog) 32 5 .i64 Try.underlying32 hi0 1 hz1 A xs.length c k hk
  rw [Nat.mul_one] at hcut
  have HR : Hid (RdrD (w.setCell ⟨g, 0, none⟩ (.slice (if c = k then A else A.map (·.add k)) (xs.length - k) (c - k))) g d (xs.drop k)) := by
    have h3 := hr.drop hk
    rw [Nat.mul_one, by8_drop] at h3
    refine ⟨if c = k then A else A.map (·.add k), c - k, ?_, ?_, hA.drop _ _ _⟩
    · simp [World.setCell, Array.getElem?_modify, hg]
    · rw [List.length_drop]
      exact row_beside hg h3 (by8_ne _ _ _ _)
  have hbes := fun x => row_beside (x := x) hg (hr.take hk) (fun v hv => by8_ne xs A xs.length c v (List.mem_of_mem_take hv))
  have HT : Hid (∀ x, RB (w.setCell ⟨g, 0, none⟩ x) (.slice A k k) (xs.take k)) := by
    intro x
    have h1 := (hbes x).recap (c' := k) (Nat.le_refl _) (by omega)
    rw [Nat.mul_one, by8_take] at h1
    have hl : (xs.take k).length = k := by rw [List.length_take]; omega
    exact ⟨A, k, by rw [hl], by rw [hl]; exact h1⟩
  have HA := hid hA
  clear hbes hA
  go_enter Try.func80, Try.ntmps80
  go_wp2_with fail
  refine HL.out.mono ?_
  rintro e w' ⟨rfl, rfl⟩
  go_wp2_with fail
  all_goals
    go_ret
    refine ⟨A, rfl, HT.out _, HA.out, ?_, grownBy_setCell _ _ _ _, size_setCell _ _ _⟩
    have h2 := HR.out
    first
      | (rw [if_neg (by assumption)] at h2; exact h2)
      | (rw [if_pos (by assumption), show c - k = 0 by omega] at h2; exact h2)
set_option maxHeartbeats 400000 in
theorem numD (g d : Nat) (xs : List UInt8) (k : Nat) (hk0 : 0 < k) (hk8 : k ≤ 8) (hk : k ≤ xs.length) (w : World) (h : RdrD w g d xs) :
    Calls Try.prog 68 #[.pointer (some ⟨g, 0, none⟩), .int .i64 (k : Int)] w fun e w' => e = .returned (.int .u64 (getS (xs.take k) : Int)) ∧ RdrD w' g d (xs.drop k) ∧ Mod [g] w w' ∧ w'.heap.size = w.heap.size := by
  have HB := hid (bytesD g d xs k hk0 hk w h)
  have h8 : ¬ (8 : Int) < (k : Int) := by omega
  go_enter Try.func68, Try.ntmps68
  go_wp2_with fail
  refine HB.out.mono ?_
  rintro e w1 ⟨A, rfl, hr1, _, hd1, hg1, hs1⟩
  go_wp2_with fail
  refine (get_any _ _ _ hr1).mono ?_
  rintro e w2 ⟨rfl, rfl⟩
  go_wp2_with fail
  go_ret
  exact ⟨rfl, hd1, Mod.of_grown hg1, hs1⟩
/-- A number is read, or the reading stops. -/
theorem numT (g d : Nat) (xs : List UInt8) (k : Nat) (hk0 : 0 < k) (hk8 : k ≤ 8) (w : World) (h : RdrD w g d xs) :
    Calls Try.prog 68 #[.pointer (some ⟨g, 0, none⟩), .int .i64 (k : Int)] w fun e w' => (k ≤ xs.length ∧ e = .returned (.int .u64 (getS (xs.take k) : Int)) ∧ RdrD w' g d (xs.drop k) ∧ Mod [g] w w' ∧ w'.heap.size = w.heap.size) ∨ (xs.length < k ∧ e = .panicked stopC ∧ w = w') := by
  by_cases hk : k ≤ xs.length
  · exact (numD g d xs k hk0 hk8 hk w h).mono fun e w' h => .inl ⟨hk, h⟩
  · exact (num_stop _ (k : Int) w xs.length (by unfold numLen; split <;> omega) (left_any g xs w h.rdr)).mono fun e w' h => .inr ⟨by omega, h⟩
set_option maxHeartbeats 400000 in
theorem readD (v : Value) (xs : List UInt8) (w : World) (hr : RB w v xs) (hl : xs.length ≤ 70368744177664) :
    Calls Try.prog 62 #[v] w fun e w' => ∃ g d, e = .returned (.pointer (some ⟨g, 0, none⟩)) ∧ w.heap.size ≤ g ∧ w.heap.size ≤ d ∧ d ≤ g ∧ RdrD w' g d xs ∧ Below w.heap.size w w' := by
  go_enter Try.func62, Try.ntmps62
  go_wp2_with fail
  refine (clone_any v xs _ hr hl).mono ?_
  rintro e w1 ⟨A, c, rfl, ho, hb⟩
  obtain ⟨d, hd1, hd2, hd3, _⟩ := ho.inb' hb.size
  go_wp2_with fail
  go_ret
  obtain ⟨A', c', e1, hrow⟩ := ho.rb
  injection e1 with e1 _ e3
  subst e1 e3
  exact ⟨w1.heap.size, d, rfl, hb.size, hd2, hd3, ⟨A, c, heap_alloc_new _ _, hrow.alloc _, hd1⟩, below_alloc hb _ (Nat.le_refl _)⟩
end Go.Proofs.Ythnidgiogjehkaa
