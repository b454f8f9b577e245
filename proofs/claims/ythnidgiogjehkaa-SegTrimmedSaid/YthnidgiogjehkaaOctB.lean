/- Walks: a reader's Read, Left, Bytes, Num. -/
import Derived.Test.YthnidgiogjehkaaOctA
import Derived.WalkLawsBesides
namespace Go.Proofs.Ythnidgiogjehkaa
set_option linter.unusedVariables false
set_option linter.unusedSimpArgs false
set_option maxRecDepth 20000
open Go.RowKit

/-- A reader: a block of one cell, a slice of the bytes that are left. -/
def Rdr (w : World) (g : Nat) (xs : List UInt8) : Prop :=
  ∃ A c, w.heap[g]? = some (.cells #[.slice A xs.length c] 110 (0, 0)) ∧ Row w 1 A xs.length c (by8 xs)
def stopV : Value := .iface 112 (.agg #[])
def stopC : List PanicEntry := [{ v := stopV, recovered := false }]

theorem Rdr.lt {w : World} {g : Nat} {xs : List UInt8} (h : Rdr w g xs) : g < w.heap.size := by
  obtain ⟨A, c, h, _⟩ := h
  exact (Array.getElem?_eq_some_iff.1 h).1
theorem Rdr.ne {w : World} {g : Nat} {xs : List UInt8} (h : Rdr w g xs) {a : Addr} {k : IntKind} {n : Int} (hc : w.cell? a = some (.int k n)) : a.block ≠ g := by
  rintro rfl
  obtain ⟨A, c, h, _⟩ := h
  unfold World.cell? at hc
  rw [h] at hc
  simp only at hc
  split at hc
  · cases hc
  · rw [List.getElem?_toArray] at hc
    rcases ho : a.off with _ | q
    · rw [ho] at hc; simp at hc
    · rw [ho] at hc; simp at hc
theorem Rdr.below {w w' : World} {g : Nat} {xs : List UInt8} (h : Rdr w g xs) (hb : Below w.heap.size w w') : Rdr w' g xs := by
  have := h.lt
  obtain ⟨A, c, h, r⟩ := h
  exact ⟨A, c, (hb.block g this).trans h, r.below hb⟩
theorem Rdr.drewN {w : World} {g : Nat} {xs : List UInt8} (h : Rdr w g xs) (n : Nat) : Rdr (w.drewN n) g xs := by
  obtain ⟨A, c, h, r⟩ := h
  exact ⟨A, c, h, r.drewN n⟩
/-- Other bytes stay where a reader goes on. -/
theorem row_beside {w : World} {g sz n c : Nat} {A : Option Addr} {vs : List Value} {u x : Value} {T : TypeId} (hg : w.heap[g]? = some (.cells #[u] T (0, 0))) (h : Row w sz A n c vs) (hu : ∀ v ∈ vs, v ≠ u) : Row (w.setCell ⟨g, 0, none⟩ x) sz A n c vs := by
  refine h.keep' fun k v hv ad hc => ?_
  refine (World.cell?_setCell_other w ⟨g, 0, none⟩ (ad.add k) x (fun e => ?_)).trans hc
  rw [← e, cell_of_row w g 0 _ _ _ hg] at hc
  injection hc with hc
  exact hu v (List.mem_of_getElem? hv) hc.symm
theorem by8_ne (xs : List UInt8) (A : Option Addr) (n c : Nat) : ∀ v ∈ by8 xs, v ≠ .slice A n c := by
  intro v hv e
  obtain ⟨x, _, rfl⟩ := List.mem_map.1 hv
  cases e

set_option maxHeartbeats 400000 in
theorem left_nil (w : World) : Calls Try.prog 65 #[.pointer none] w fun e w' => e = .returned (.int .i64 0) ∧ w = w' := by
  go_enter Try.func65, Try.ntmps65
  go_wp2
  go_ret
  exact ⟨rfl, rfl⟩
set_option maxHeartbeats 400000 in
theorem left_any (g : Nat) (xs : List UInt8) (w : World) (h : Rdr w g xs) : Calls Try.prog 65 #[.pointer (some ⟨g, 0, none⟩)] w fun e w' => e = .returned (.int .i64 (xs.length : Int)) ∧ w = w' := by
  obtain ⟨A, c, hg, hr⟩ := h
  have hc := cell_of_row w g 0 _ _ _ hg
  simp only [List.getElem?_toArray, List.getElem?_cons_zero] at hc
  go_enter Try.func65, Try.ntmps65
  go_wp2
  go_ret
  exact ⟨rfl, rfl⟩

set_option maxHeartbeats 400000 in
theorem bytes_zero (p : Option Addr) (size : Int) (hs : size ≤ 0) (w : World) (hl : ∃ n : Nat, n ≤ 9223372036854775807 ∧ Calls Try.prog 65 #[.pointer p] w fun e w' => e = .returned (.int .i64 (n : Int)) ∧ w = w') :
    Calls Try.prog 80 #[.pointer p, .int .i64 size] w fun e w' => e = .returned (.slice none 0 0) ∧ w = w' := by
  obtain ⟨n, hn, hl⟩ := hl
  have HL := hid hl
  clear hl
  by_cases h0 : size < 0
  · go_enter Try.func80, Try.ntmps80
    go_wp2_with fail
    refine HL.out.mono ?_
    rintro e w' ⟨rfl, rfl⟩
    go_wp2_with fail
    go_ret
    exact ⟨rfl, rfl⟩
  · obtain rfl : size = 0 := by omega
    go_enter Try.func80, Try.ntmps80
    go_wp2_with fail
    refine HL.out.mono ?_
    rintro e w' ⟨rfl, rfl⟩
    go_wp2_with fail
    go_ret
    exact ⟨rfl, rfl⟩

set_option maxHeartbeats 400000 in
theorem bytes_stop (p : Option Addr) (size : Int) (w : World) (n : Nat) (hs : (n : Int) < size) (hl : Calls Try.prog 65 #[.pointer p] w fun e w' => e = .returned (.int .i64 (n : Int)) ∧ w = w') :
    Calls Try.prog 80 #[.pointer p, .int .i64 size] w fun e w' => e = .panicked stopC ∧ w = w' := by
  have HL := hid hl
  clear hl
  have h0 : ¬ size < 0 := by omega
  have hd : decide ((n : Int) < size) = true := by simpa using hs
  go_enter Try.func80, Try.ntmps80
  go_wp2_with fail
  refine HL.out.mono ?_
  rintro e w' ⟨rfl, rfl⟩
  go_wp2_with fail
  exact ⟨rfl, rfl, rfl⟩

/-- What is left of a reader's slice behind k bytes. -/
theorem Rdr.adv {w : World} {g : Nat} {xs : List UInt8} {A : Option Addr} {c k : Nat} (hg : w.heap[g]? = some (.cells #[.slice A xs.length c] 110 (0, 0))) (hr : Row w 1 A xs.length c (by8 xs)) (hk : k ≤ xs.length) :
    Rdr (w.setCell ⟨g, 0, none⟩ (.slice (if c = k then A else A.map (·.add k)) (xs.length - k) (c - k))) g (xs.drop k) := by
  have h3 := hr.drop hk
  rw [Nat.mul_one, by8_drop] at h3
  refine ⟨if c = k then A else A.map (·.add k), c - k, ?_, ?_⟩
  · simp [World.setCell, Array.getElem?_modify, hg]
  · rw [List.length_drop]
    exact row_beside hg h3 (by8_ne _ _ _ _)

set_option maxHeartbeats 400000 in
theorem bytes_some (g : Nat) (xs : List UInt8) (k : Nat) (hk0 : 0 < k) (hk : k ≤ xs.length) (w : World) (h : Rdr w g xs) :
    Calls Try.prog 80 #[.pointer (some ⟨g, 0, none⟩), .int .i64 (k : Int)] w fun e w' => ∃ A, e = .returned (.slice A k k) ∧ RB w' (.slice A k k) (xs.take k) ∧ Rdr w' g (xs.drop k) ∧ w.grownBy w' (some g) ∧ w'.heap.size = w.heap.size := by
  have HL := hid (left_any g xs w h)
  obtain ⟨A, c, hg, hr⟩ := h
  obtain ⟨i0, hi0, hz0, hz1, hz2⟩ := info_parts info_u8
  have hc := cell_of_row w g 0 _ _ _ hg
  have hf : w.frozen? ⟨g, 0, none⟩ = false := by simp [World.frozen?, hg]
  simp only [List.getElem?_toArray, List.getElem?_cons_zero] at hc
  have hcap := hr.cap
  have htop := hr.top
  have h0 : ¬ (k : Int) < 0 := by omega
  have hd : decide ((xs.length : Int) < (k : Int)) = false := by simp; omega
  have hd' : decide (xs.length < k) = false := by simp; omega
  have he : ((k : Int) == 0) = false := by simp; omega
  have hcut := slice_from (P := Try.prog) 32 5 .i64 Try.underlying32 hi0 1 hz1 A xs.length c k hk
  rw [Nat.mul_one] at hcut
  have HR := hid (Rdr.adv hg hr hk)
  have hbes := fun x => row_beside (x := x) hg (hr.take hk) (fun v hv => by8_ne xs A xs.length c v (List.mem_of_mem_take hv))
  have HT : Hid (∀ x, RB (w.setCell ⟨g, 0, none⟩ x) (.slice A k k) (xs.take k)) := by
    intro x
    have h1 := (hbes x).recap (c' := k) (Nat.le_refl _) (by omega)
    rw [Nat.mul_one, by8_take] at h1
    have hl : (xs.take k).length = k := by rw [List.length_take]; omega
    exact ⟨A, k, by rw [hl], by rw [hl]; exact h1⟩
  clear hbes
  go_enter Try.func80, Try.ntmps80
  go_wp2_with fail
  refine HL.out.mono ?_
  rintro e w' ⟨rfl, rfl⟩
  go_wp2_with fail
  all_goals
    go_ret
    refine ⟨A, rfl, HT.out _, ?_, grownBy_setCell _ _ _ _, size_setCell _ _ _⟩
    have h2 := HR.out
    first
      | (rw [if_neg (by assumption)] at h2; exact h2)
      | (rw [if_pos (by assumption), show c - k = 0 by omega] at h2; exact h2)

/-- How many bytes a number of some size has. -/
def numLen (size : Int) : Int := if 8 < size then 8 else size

set_option maxHeartbeats 400000 in
theorem num_some (g : Nat) (xs : List UInt8) (size : Int) (k : Nat) (hk0 : 0 < k) (hsz : numLen size = k) (hk : k ≤ xs.length) (w : World) (h : Rdr w g xs) :
    Calls Try.prog 68 #[.pointer (some ⟨g, 0, none⟩), .int .i64 size] w fun e w' => e = .returned (.int .u64 (getS (xs.take k) : Int)) ∧ Rdr w' g (xs.drop k) ∧ w.grownBy w' (some g) ∧ w'.heap.size = w.heap.size := by
  unfold numLen at hsz
  have HB := hid (bytes_some g xs k hk0 hk w h)
  by_cases h8 : ¬ 8 < size
  · rw [if_neg h8] at hsz
    subst hsz
    go_enter Try.func68, Try.ntmps68
    go_wp2_with fail
    refine HB.out.mono ?_
    rintro e w1 ⟨A, rfl, hr1, hd1, hg1, hs1⟩
    go_wp2_with fail
    refine (get_any _ _ _ hr1).mono ?_
    rintro e w2 ⟨rfl, rfl⟩
    go_wp2_with fail
    go_ret
    exact ⟨rfl, hd1, hg1, hs1⟩
  · rw [if_pos (by omega)] at hsz
    obtain rfl : k = 8 := by omega
    clear hsz
    have h8' : 8 < size := by omega
    clear h8
    go_enter Try.func68, Try.ntmps68
    go_wp2_with fail
    refine HB.out.mono ?_
    rintro e w1 ⟨A, rfl, hr1, hd1, hg1, hs1⟩
    go_wp2_with fail
    refine (get_any _ _ _ hr1).mono ?_
    rintro e w2 ⟨rfl, rfl⟩
    go_wp2_with fail
    go_ret
    exact ⟨rfl, hd1, hg1, hs1⟩

set_option maxHeartbeats 400000 in
theorem num_zero (p : Option Addr) (size : Int) (hs : size ≤ 0) (w : World) (hl : ∃ n : Nat, n ≤ 9223372036854775807 ∧ Calls Try.prog 65 #[.pointer p] w fun e w' => e = .returned (.int .i64 (n : Int)) ∧ w = w') :
    Calls Try.prog 68 #[.pointer p, .int .i64 size] w fun e w' => e = .returned (.int .u64 0) ∧ w = w' := by
  have HB := hid (bytes_zero p size hs w hl)
  have h8 : ¬ 8 < size := by omega
  clear hl
  go_enter Try.func68, Try.ntmps68
  go_wp2_with fail
  refine HB.out.mono ?_
  rintro e w1 ⟨rfl, rfl⟩
  go_wp2_with fail
  refine (get_any _ _ _ (RB.nil _)).mono ?_
  rintro e w2 ⟨rfl, rfl⟩
  go_wp2_with fail
  go_ret
  exact ⟨rfl, rfl⟩

set_option maxHeartbeats 400000 in
theorem num_stop (p : Option Addr) (size : Int) (w : World) (n : Nat) (hs : (n : Int) < numLen size) (hl : Calls Try.prog 65 #[.pointer p] w fun e w' => e = .returned (.int .i64 (n : Int)) ∧ w = w') :
    Calls Try.prog 68 #[.pointer p, .int .i64 size] w fun e w' => e = .panicked stopC ∧ w = w' := by
  have HB := hid (bytes_stop p (numLen size) w n hs hl)
  unfold numLen at HB
  clear hl
  by_cases h8 : ¬ 8 < size
  · rw [if_neg h8] at HB
    go_enter Try.func68, Try.ntmps68
    go_wp2_with fail
    refine HB.out.mono ?_
    rintro e w1 ⟨rfl, rfl⟩
    go_wp2_with fail
    exact ⟨rfl, rfl, rfl⟩
  · rw [if_pos (by omega)] at HB
    go_enter Try.func68, Try.ntmps68
    go_wp2_with fail
    refine HB.out.mono ?_
    rintro e w1 ⟨rfl, rfl⟩
    go_wp2_with fail
    exact ⟨rfl, rfl, rfl⟩

set_option maxHeartbeats 400000 in
theorem read_any (v : Value) (xs : List UInt8) (w : World) (hr : RB w v xs) (hl : xs.length ≤ 70368744177664) :
    Calls Try.prog 62 #[v] w fun e w' => ∃ g, e = .returned (.pointer (some ⟨g, 0, none⟩)) ∧ w.heap.size ≤ g ∧ Rdr w' g xs ∧ Below w.heap.size w w' := by
  go_enter Try.func62, Try.ntmps62
  go_wp2_with fail
  refine (clone_any v xs _ hr hl).mono ?_
  rintro e w1 ⟨A, c, rfl, ho, hb⟩
  go_wp2_with fail
  go_ret
  obtain ⟨A', c', e1, hrow⟩ := ho.rb
  injection e1 with e1 _ e3
  subst e1 e3
  exact ⟨w1.heap.size, rfl, hb.size, ⟨A, c, heap_alloc_new _ _, hrow.alloc _⟩, below_alloc hb _ (Nat.le_refl _)⟩
end Go.Proofs.Ythnidgiogjehkaa
