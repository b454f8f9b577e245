/- Walks: Has. -/
import Derived.Test.YtblkfpipmdfmkaaSackB
namespace Go.Proofs.Ytblkfpipmdfmkaa
set_option linter.unusedVariables false
set_option linter.unusedSimpArgs false
open Go.RowKit

def inR (k : Nat) (r : Nat × Nat) : Bool := decide (r.1 ≤ k) && decide (k < r.2)
def hasR (rs : List (Nat × Nat)) (k : Nat) : Bool := rs.any (inR k)
theorem hasR_take (rs : List (Nat × Nat)) (j k : Nat) (h : j < rs.length) : hasR (rs.take (j + 1)) k = (hasR (rs.take j) k || inR k (rs.getD j (0, 0))) := by
  unfold hasR
  rw [List.take_succ_eq_append_getElem h, List.any_append]
  simp [List.getD_eq_getElem?_getD, List.getElem?_eq_getElem h]
theorem hasR_mem (rs : List (Nat × Nat)) (j k : Nat) (h : j < rs.length) (hi : inR k (rs.getD j (0, 0)) = true) : hasR rs k = true := by
  unfold hasR
  rw [List.any_eq_true]
  refine ⟨rs[j], List.getElem_mem h, ?_⟩
  have e : rs.getD j (0, 0) = rs[j] := by simp [List.getD_eq_getElem?_getD, List.getElem?_eq_getElem h]
  rwa [e] at hi
theorem has1_any (x y : Int) (k : Int) (kb : Nat) (w : World) (hk : w.cell? ⟨kb, 0, none⟩ = some (.int .i64 k)) :
    Calls Try.prog 46 #[.agg #[.int .i64 x, .int .i64 y], .pointer (some ⟨kb, 0, none⟩)] w fun e w' => e = .returned (.bool (decide (x ≤ k) && decide (k < y))) ∧ Below w.heap.size w w' := by
  have hkb := World.block_lt_of_cell? w _ hk
  have hk2 : ∀ o : Obj, (w.alloc o).cell? ⟨kb, 0, none⟩ = some (.int .i64 k) := fun o => by rw [World.cell?_alloc_lt w _ _ hkb]; exact hk
  clear hkb hk
  cases h1 : decide (x ≤ k)
  all_goals
    cases h2 : decide (k < y)
    all_goals
      go_enter Try.func46, Try.ntmps46
      go_wp2
      go_ret
      exact ⟨rfl, bl1 w _⟩
set_option maxHeartbeats 1000000 in
theorem index_any (A : Option Addr) (c : Nat) (rs : List (Nat × Nat)) (k : Nat) (kb : Nat) (w : World) (hrow : Row w 2 A rs.length c (rcs rs)) (hr : OkR rs) (hk : w.cell? ⟨kb, 0, none⟩ = some (.int .i64 (k : Int))) :
    Calls Try.prog 50 #[.slice A rs.length c, .func (.func 46) #[] #[.pointer (some ⟨kb, 0, none⟩)]] w fun e w' =>
      ∃ j : Int, e = .returned (.int .i64 j) ∧ decide (0 ≤ j) = hasR rs k ∧ Below w.heap.size w w' := by
  have htop := hrow.top
  have hcap := hrow.cap
  have HROW := hid hrow
  have HR := hid hr
  have hlen := hr.1
  have HK := hid fun W (h : Below w.heap.size w W) => keep_cell h hk (World.block_lt_of_cell? w _ hk)
  have HC := hid fun W (h : Below w.heap.size w W) x y => has1_any x y (k : Int) kb W (HK.out W h)
  clear hrow hr hk
  go_enter Try.func50, Try.ntmps50
  go_wp2_with fail
  go_loopw [8] (fun i wr => ∃ j : Nat, j ≤ rs.length ∧ i = .int .i64 j ∧ Hid (hasR (rs.take j) k = false) ∧ Below w.heap.size w wr) (fun i _ => rs.length - (intOf i).toNat)
  case atStart => exact ⟨0, Nat.zero_le _, rfl, hid rfl, Below.refl _ _⟩
  case round =>
    obtain ⟨j, hj, rfl, hno, hb⟩ := hrel
    by_cases hlt : j < rs.length
    · have hrow := HROW.out.below hb
      obtain ⟨a, rfl⟩ := hrow.addr (by rw [rcs_length]; omega)
      obtain ⟨l0, l1⟩ := hrow.run j hlt
      have hin : inR k (rs.getD j (0, 0)) = (decide (((rs.getD j (0, 0)).1 : Int) ≤ (k : Int)) && decide ((k : Int) < ((rs.getD j (0, 0)).2 : Int))) := by
        unfold inR; congr 1 <;> (rw [decide_eq_decide]; omega)
      have hst := hasR_take rs j k hlt
      have hmem := hasR_mem rs j k hlt
      rw [hno.out, Bool.false_or] at hst
      rw [hin] at hst hmem
      have HST := hid hst
      have HMEM := hid hmem
      have HB := hid hb
      generalize (rs.getD j (0, 0)).1 = x at *
      generalize (rs.getD j (0, 0)).2 = y at *
      clear hrow hst hb hmem hin hno
      go_wp2_with fail
      (with_reducible refine Calls.mono (HC.out _ HB.out _ _) ?_)
      rintro e w1 ⟨rfl, hb1⟩
      have HB1 := hid (below_after HB.out hb1 (Nat.le_refl _))
      clear hb1 l0 l1
      generalize (decide ((x : Int) ≤ (k : Int)) && decide ((k : Int) < (y : Int))) = t at HST HMEM ⊢
      cases t
      · go_wp2_with fail
        go_roundw
        case rel => exact ⟨j + 1, by omega, by go_num, HST.out, HB1.out⟩
        case measure => simp [intOf]; omega
      · go_wp2_with fail
        go_ret
        exact ⟨j, rfl, by rw [HMEM.out (by first | exact trivial | rfl)]; exact decide_eq_true (by omega), HB1.out⟩
    · obtain rfl : j = rs.length := by omega
      rw [List.take_length] at hno
      go_wp2_with fail
      go_ret
      exact ⟨-1, rfl, by rw [hno.out]; rfl, hb⟩
theorem contains_any (A : Option Addr) (c : Nat) (rs : List (Nat × Nat)) (k : Nat) (kb : Nat) (w : World) (hrow : Row w 2 A rs.length c (rcs rs)) (hr : OkR rs) (hk : w.cell? ⟨kb, 0, none⟩ = some (.int .i64 (k : Int))) :
    Calls Try.prog 45 #[.slice A rs.length c, .func (.func 46) #[] #[.pointer (some ⟨kb, 0, none⟩)]] w fun e w' =>
      e = .returned (.bool (hasR rs k)) ∧ Below w.heap.size w w' := by
  have HI := hid (index_any A c rs k kb w hrow hr hk)
  clear hrow hr hk
  go_enter Try.func45, Try.ntmps45
  go_wp2_with fail
  (with_reducible refine Calls.mono HI.out ?_)
  rintro e w1 ⟨j, rfl, hj, hb⟩
  have HJ := hid hj
  have HB := hid hb
  clear hj hb
  cases hd : decide (0 ≤ j)
  · have ht := hid (show hasR rs k = false by rw [← HJ.out]; exact hd)
    go_wp2_with fail
    go_ret
    rw [ht.out]
    exact ⟨rfl, HB.out⟩
  · have ht := hid (show hasR rs k = true by rw [← HJ.out]; exact hd)
    go_wp2_with fail
    go_ret
    rw [ht.out]
    exact ⟨rfl, HB.out⟩
set_option maxHeartbeats 1000000 in
theorem has_any (g f : Nat) (rs : List (Nat × Nat)) (n : Nat) (w : World) (h : Brd w g f rs) (hr : OkR rs) (hf : f < 4294967296) (hn : n < 4294967296) :
    Calls Try.prog 29 #[.pointer (some ⟨g, 0, none⟩), .int .u32 (n : Int)] w fun e w' => e = .returned (.bool (hasR rs ((n + 4294967296 - f) % 4294967296))) ∧ Below w.heap.size w w' := by
  have HO := hid (ok_yes g f rs w h)
  have HA := hid (ahead_any g f rs n w h hf hn)
  obtain ⟨A, c, h1, hrow, _⟩ := h
  have hgl := (Array.getElem?_eq_some_iff.1 h1).1
  have c2 : ∀ o : Obj, (w.alloc o).cell? ⟨g, 2, none⟩ = some (.slice A rs.length c) := fun o => by
    rw [World.cell?_alloc_lt w _ _ hgl]
    have := cellRow h1 2
    simpa using this
  have HC := hid fun k : Nat => contains_any A c rs k w.heap.size (w.alloc (.cells #[.int .i64 (k : Int)] 3)) (hrow.alloc _) hr (by rw [cellRow (nw1 w _) 0]; rfl)
  have hmf : ∀ (fn : Fn) (first cap : Array Value) (w : World), (Instr.makeFunc fn first cap).run Try.prog w = .ok (.func fn first cap) w := fun _ _ _ _ => rfl
  clear h1 hrow hr hgl
  generalize (n + 4294967296 - f) % 4294967296 = k at HA ⊢
  go_enter Try.func29, Try.ntmps29
  go_wp2_with fail
  (with_reducible refine Calls.mono HO.out ?_)
  rintro e w' ⟨rfl, rfl⟩
  go_wp2_with fail
  (with_reducible refine Calls.mono HA.out ?_)
  rintro e w' ⟨rfl, rfl⟩
  go_wp2_with fail
  (with_reducible refine Calls.mono (HC.out k) ?_)
  rintro e w1 ⟨rfl, hb1⟩
  go_wp2_with fail
  go_ret
  exact ⟨rfl, below_after (bl1 w _) hb1 (Nat.le_refl _)⟩
end Go.Proofs.Ytblkfpipmdfmkaa
