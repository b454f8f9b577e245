/- Boards in memory; walks: New, ok, ahead, and the numbers that came (Bytes). -/
import Derived.Test.YtblkfpipmdfmkaaSackA
import Derived.Test.YtblkfpipmdfmkaaQRow
import Derived.Test.YtblkfpipmdfmkaaBcs
namespace Go.Proofs.Ytblkfpipmdfmkaa
set_option linter.unusedVariables false
set_option linter.unusedSimpArgs false
open Go.RowKit

def rcs (rs : List (Nat × Nat)) : List Value := rs.flatMap fun r => [.int .i64 (r.1 : Int), .int .i64 (r.2 : Int)]
theorem rcs_length (rs : List (Nat × Nat)) : (rcs rs).length = 2 * rs.length := by
  induction rs with
  | nil => rfl
  | cons r rs ih => simp only [rcs, List.flatMap_cons, List.length_append, List.length_cons, List.length_nil] at *; omega
theorem rcs_at (rs : List (Nat × Nat)) : ∀ (k : Nat), k < rs.length → (rcs rs)[2 * k]? = some (.int .i64 ((rs.getD k (0, 0)).1 : Int)) ∧ (rcs rs)[2 * k + 1]? = some (.int .i64 ((rs.getD k (0, 0)).2 : Int)) := by
  induction rs with
  | nil => intro k h; simp at h
  | cons r rs ih =>
    intro k h
    cases k with
    | zero => exact ⟨rfl, rfl⟩
    | succ k =>
      have := ih k (by simp at h; omega)
      have e : rcs (r :: rs) = .int .i64 (r.1 : Int) :: .int .i64 (r.2 : Int) :: rcs rs := rfl
      rw [e, show 2 * (k + 1) = 2 * k + 1 + 1 by omega, show 2 * k + 1 + 1 + 1 = (2 * k + 1) + 1 + 1 by omega]
      simpa using this
/-- A board: its first number, and its runs. -/
def Brd (w : World) (g : Nat) (f : Nat) (rs : List (Nat × Nat)) : Prop :=
  ∃ A c, w.heap[g]? = some (.cells #[.bool true, .int .u32 (f : Int), .slice A rs.length c] 76 (0, 0)) ∧ Row w 2 A rs.length c (rcs rs) ∧ w.ownsRow 0 81 2 (.slice A rs.length c) rs.length (rcs rs)
theorem Brd.below {w w' : World} {g f : Nat} {rs : List (Nat × Nat)} (h : Brd w g f rs) (hb : Below w.heap.size w w') : Brd w' g f rs := by
  obtain ⟨A, c, h1, h2, h3⟩ := h
  exact ⟨A, c, (hb.block g (Array.getElem?_eq_some_iff.1 h1).1).trans h1, h2.below hb, own_below h3 hb⟩
/-- A row of runs stays where blocks of other cells turn. -/
theorem own_runs {base sz n g : Nat} {v : Value} {xs : List Value} {w w' : World} {cs : Array Value} {T : TypeId} {fr : Nat × Nat} (h : w.ownsRow base 81 sz v n xs) (hg : w.heap[g]? = some (.cells cs T fr)) (hT : T ≠ 81) (hk : ∀ k, k < w.heap.size → k ≠ g → w'.heap[k]? = w.heap[k]?) : w'.ownsRow 0 81 sz v n xs := by
  refine ⟨h.1, ?_⟩
  rcases h.2 with hn | ⟨b, cap, cur, rfl, hb, hgg, rest⟩
  · exact .inl hn
  · refine .inr ⟨b, cap, cur, rfl, Nat.zero_le _, (hk b (Array.getElem?_eq_some_iff.1 hgg).1 ?_).trans hgg, rest⟩
    rintro rfl
    rw [hg] at hgg
    injection hgg with hgg
    injection hgg with _ h3 _
    exact hT h3
theorem Brd.lt {w : World} {g f : Nat} {rs : List (Nat × Nat)} (h : Brd w g f rs) : g < w.heap.size := by
  obtain ⟨A, c, h1, _⟩ := h
  exact (Array.getElem?_eq_some_iff.1 h1).1
theorem ok_yes (g f : Nat) (rs : List (Nat × Nat)) (w : World) (h : Brd w g f rs) : Calls Try.prog 43 #[.pointer (some ⟨g, 0, none⟩)] w fun e w' => e = .returned (.bool true) ∧ w = w' := by
  obtain ⟨A, c, h1, h2, _⟩ := h
  have c0 := cellRow h1 0
  simp only [List.getElem?_toArray, List.getElem?_cons_zero] at c0
  clear h1 h2
  go_enter Try.func43, Try.ntmps43
  go_wp2
  go_ret
  exact ⟨rfl, rfl⟩
theorem ahead_any (g f : Nat) (rs : List (Nat × Nat)) (n : Nat) (w : World) (h : Brd w g f rs) (hf : f < 4294967296) (hn : n < 4294967296) :
    Calls Try.prog 44 #[.pointer (some ⟨g, 0, none⟩), .int .u32 (n : Int)] w fun e w' => e = .returned (.int .i64 (((n + 4294967296 - f) % 4294967296 : Nat) : Int)) ∧ w = w' := by
  obtain ⟨A, c, h1, h2, _⟩ := h
  have c0 := cellRow h1 1
  simp only [List.getElem?_toArray, List.getElem?_cons_succ, List.getElem?_cons_zero] at c0
  clear h1 h2
  go_enter Try.func44, Try.ntmps44
  go_wp2
  go_ret
  refine ⟨congrArg Ending.returned (congrArg (Value.int .i64) ?_), rfl⟩
  omega
def sumR (rs : List (Nat × Nat)) : Nat := (rs.map fun r => r.2 - r.1).foldr (· + ·) 0
theorem sumR_take (rs : List (Nat × Nat)) (k : Nat) (h : k < rs.length) : sumR (rs.take (k + 1)) = sumR (rs.take k) + ((rs.getD k (0, 0)).2 - (rs.getD k (0, 0)).1) := by
  induction rs generalizing k with
  | nil => simp at h
  | cons r rs ih =>
    cases k with
    | zero => simp [sumR]
    | succ k =>
      have := ih k (by simp at h; omega)
      simp only [List.take_succ_cons, sumR, List.map_cons, List.foldr_cons, List.getD_cons_succ] at this ⊢
      omega
/-- Runs whose ends stand within the span. -/
def OkR (rs : List (Nat × Nat)) : Prop := rs.length ≤ 65536 ∧ ∀ r ∈ rs, r.1 ≤ r.2 ∧ r.2 ≤ 65536
theorem sumR_le (rs : List (Nat × Nat)) (h : ∀ r ∈ rs, r.1 ≤ r.2 ∧ r.2 ≤ 65536) (k : Nat) : sumR (rs.take k) ≤ k * 65536 := by
  induction rs generalizing k with
  | nil => simp [sumR]
  | cons r rs ih =>
    cases k with
    | zero => simp [sumR]
    | succ k =>
      have := ih (fun r hr => h r (List.mem_cons_of_mem _ hr)) k
      have hr := h r (List.mem_cons_self ..)
      simp only [List.take_succ_cons, sumR, List.map_cons, List.foldr_cons] at this ⊢
      omega
theorem alloc_run : ∀ w, (Instr.alloc 81 true (.tuple #[])).run Try.prog w = .ok (.pointer (some ⟨w.heap.size, 0, none⟩)) (w.alloc (.cells #[.int .i64 0, .int .i64 0] 81)) := by intro w; kernel_rfl
theorem OkR.get {rs : List (Nat × Nat)} (h : OkR rs) (k : Nat) (hk : k < rs.length) : (rs.getD k (0, 0)).1 ≤ (rs.getD k (0, 0)).2 ∧ (rs.getD k (0, 0)).2 ≤ 65536 := by
  have e : rs.getD k (0, 0) = rs[k] := by simp [List.getD_eq_getElem?_getD, List.getElem?_eq_getElem hk]
  rw [e]
  exact h.2 _ (List.getElem_mem hk)
/-- A run's two cells. -/
theorem Row.run {w : World} {a : Addr} {c : Nat} {rs : List (Nat × Nat)} (h : Row w 2 (some a) rs.length c (rcs rs)) (k : Nat) (hk : k < rs.length) :
    w.cell? (a.add (k * 2)) = some (.int .i64 ((rs.getD k (0, 0)).1 : Int)) ∧ w.cell? ⟨(a.add (k * 2)).block, (a.add (k * 2)).off + 1, none⟩ = some (.int .i64 ((rs.getD k (0, 0)).2 : Int)) := by
  obtain ⟨h1, h2⟩ := rcs_at rs k hk
  have e1 := h.get _ _ h1
  have e2 := h.get _ _ h2
  refine ⟨by rw [show k * 2 = 2 * k by omega]; exact e1, ?_⟩
  rw [← run_add_lit _ 1 (by omega), add_add, show k * 2 + 1 = 2 * k + 1 by omega]
  exact e2
set_option maxHeartbeats 1000000 in
theorem bytes_any (g f : Nat) (rs : List (Nat × Nat)) (w : World) (h : Brd w g f rs) (hr : OkR rs) :
    Calls Try.prog 35 #[.pointer (some ⟨g, 0, none⟩)] w fun e w' => e = .returned (.int .i64 (sumR rs : Int)) ∧ Below w.heap.size w w' := by
  have HO := hid (ok_yes g f rs w h)
  obtain ⟨A, c, h1, hrow, _⟩ := h
  have c2 := cellRow h1 2
  simp only [List.getElem?_toArray, List.getElem?_cons_succ, List.getElem?_cons_zero] at c2
  have htop := hrow.top
  have hcap := hrow.cap
  have HROW := hid hrow
  have HR := hid hr
  have hlen := hr.1
  clear hrow h1 hr
  go_enter Try.func35, Try.ntmps35
  go_wp2_with fail
  (with_reducible refine Calls.mono HO.out ?_)
  rintro e w' ⟨rfl, rfl⟩
  go_wp2_with fail
  go_loopw [3, 14] (fun n i wr => ∃ k : Nat, k ≤ rs.length ∧ i = .int .i64 k ∧ n = .int .i64 (sumR (rs.take k)) ∧ Below w.heap.size w wr) (fun _ i _ => rs.length - (intOf i).toNat)
  case atStart => exact ⟨0, Nat.zero_le _, rfl, rfl, Below.refl _ _⟩
  case round =>
    obtain ⟨k, hk, rfl, rfl, hb⟩ := hrel
    by_cases hlt : k < rs.length
    · have hrow := HROW.out.below hb
      obtain ⟨a, rfl⟩ := hrow.addr (by rw [rcs_length]; omega)
      obtain ⟨l0, l1⟩ := hrow.run k hlt
      have hg := HR.out.get k hlt
      have hst := sumR_take rs k hlt
      have hsl := sumR_le rs HR.out.2 k
      generalize sumR (rs.take k) = s at hst hsl ⊢
      generalize (rs.getD k (0, 0)).1 = x at *
      generalize (rs.getD k (0, 0)).2 = y at *
      have HST := hid hst
      have HB := hid hb
      have hsb : s ≤ 4294967296 := Nat.le_trans hsl (by omega)
      clear hrow hst hb hsl
      go_wp2
      go_roundw
      case rel => exact ⟨k + 1, by omega, by go_num, by rw [HST.out]; go_num, HB.out.alloc (by have := HB.out.size; omega) _⟩
      case measure => simp [intOf]; omega
    · obtain rfl : k = rs.length := by omega
      rw [List.take_length]
      go_wp2
      go_ret
      exact ⟨rfl, hb⟩
end Go.Proofs.Ytblkfpipmdfmkaa
