/- The control: what its parts compute. -/
import Derived.Test.YtkecfdngnbeinaaProg
import Derived.Test.YtkecfdngnbeinaaStruct
namespace Go.Proofs.Ytkecfdngnbeinaa
set_option linter.unusedVariables false
set_option linter.unusedSimpArgs false
open Go.RowKit

structure Ctl where
  mss : Int
  win : Int
  thr : Int
  dups : Int
  recs : Bool
  to : Int
def Ctl.v (c : Ctl) : Value := .agg #[.int .i64 c.mss, .int .i64 c.win, .int .i64 c.thr, .int .i64 c.dups, .bool c.recs, .int .u32 c.to]
def Ctl.set (c : Ctl) (n : Int) : Ctl := { c with win := min n 1073741824 }

theorem infoC : (Try.prog.info? 26).map (·.size) = some 6 := by kernel_rfl
theorem new2 (w : World) (a b : Obj) : ((w.alloc a).alloc b).heap[w.heap.size + 1]? = some b := by
  have := heap_alloc_new (w.alloc a) b
  simpa using this
theorem below2 (w : World) (a b : Obj) : Below w.heap.size w ((w.alloc a).alloc b) :=
  below_alloc (below_alloc (Below.refl _ _) a (Nat.le_refl _)) b (by simp)

theorem half_range (f : Int) (h : -9223372036854775808 ≤ f ∧ f ≤ 9223372036854775807) : -9223372036854775808 ≤ f.tdiv 2 ∧ f.tdiv 2 ≤ 9223372036854775807 := by
  by_cases h0 : 0 ≤ f
  · rw [Int.tdiv_eq_ediv_of_nonneg h0]; omega
  · obtain ⟨g, rfl⟩ : ∃ g, f = -g := ⟨-f, by omega⟩
    rw [Int.neg_tdiv, Int.tdiv_eq_ediv_of_nonneg (by omega)]; omega
theorem set_any (c : Ctl) (n : Int) (w : World) : Calls Try.prog 17 #[c.v, .int .i64 n] w fun e w' => e = .returned (c.set n).v ∧ Below w.heap.size w w' := by
  obtain ⟨m, wi, t, d, r, o⟩ := c
  unfold Ctl.v Ctl.set
  simp only
  go_enter Try.func17, Try.ntmps17
  go_wp2
  all_goals
    refine bodyPost_ret (results_cell_row rfl _ _ (w.heap.size + 1) _ _ _ _ rfl (new2 w _ _) Try.underlying26 rfl infoC) rfl ⟨?_, below2 w _ _⟩
    exact congrArg Ending.returned (congrArg Value.agg (by simp <;> omega))
def Ctl.resize (c : Ctl) (n : Int) : Ctl := { c with mss := min (max n 1) 65535 }
theorem resize_any (c : Ctl) (n : Int) (w : World) : Calls Try.prog 12 #[c.v, .int .i64 n] w fun e w' => e = .returned (c.resize n).v ∧ Below w.heap.size w w' := by
  obtain ⟨m, wi, t, d, r, o⟩ := c
  unfold Ctl.v Ctl.resize
  simp only
  go_enter Try.func12, Try.ntmps12
  go_wp2
  all_goals
    refine bodyPost_ret (results_cell_row rfl _ _ (w.heap.size + 1) _ _ _ _ rfl (new2 w _ _) Try.underlying26 rfl infoC) rfl ⟨?_, below2 w _ _⟩
    exact congrArg Ending.returned (congrArg Value.agg (by simp <;> omega))
def Ctl.lost (c : Ctl) (f next : Int) : Ctl := { c with thr := min (max (f.tdiv 2) (2 * c.mss)) 1073741824, to := next }
theorem lost_any (c : Ctl) (f next : Int) (w : World) (hm : 0 ≤ c.mss ∧ c.mss ≤ 65535) (hf : -9223372036854775808 ≤ f ∧ f ≤ 9223372036854775807) : Calls Try.prog 19 #[c.v, .int .i64 f, .int .u32 next] w fun e w' => e = .returned (c.lost f next).v ∧ Below w.heap.size w w' := by
  obtain ⟨m, wi, t, d, r, o⟩ := c
  unfold Ctl.v Ctl.lost
  simp only at hm ⊢
  have h1 : IntKind.i64.wrap (2 * m) = 2 * m := IntWalk.i64_in _ (by omega)
  have h3 := half_range f hf
  have h2 : IntKind.i64.wrap (f.tdiv 2) = f.tdiv 2 := IntWalk.i64_in _ h3
  go_enter Try.func19, Try.ntmps19
  go_wp2
  all_goals
    refine bodyPost_ret (results_cell_row rfl _ _ (w.heap.size + 1) _ _ _ _ rfl (new2 w _ _) Try.underlying26 rfl infoC) rfl ⟨?_, below2 w _ _⟩
    exact congrArg Ending.returned (congrArg Value.agg (by simp <;> omega))
theorem window_any (c : Ctl) (w : World) : Calls Try.prog 8 #[c.v] w fun e w' => e = .returned (.int .i64 c.win) ∧ Below w.heap.size w w' := by
  obtain ⟨m, wi, t, d, r, o⟩ := c
  unfold Ctl.v
  go_enter Try.func8, Try.ntmps8
  go_wp2
  go_ret
  exact ⟨rfl, below_alloc (Below.refl _ _) _ (Nat.le_refl _)⟩
theorem threshold_any (c : Ctl) (w : World) : Calls Try.prog 11 #[c.v] w fun e w' => e = .returned (.int .i64 c.thr) ∧ Below w.heap.size w w' := by
  obtain ⟨m, wi, t, d, r, o⟩ := c
  unfold Ctl.v
  go_enter Try.func11, Try.ntmps11
  go_wp2
  go_ret
  exact ⟨rfl, below_alloc (Below.refl _ _) _ (Nat.le_refl _)⟩
theorem recovers_any (c : Ctl) (w : World) : Calls Try.prog 6 #[c.v] w fun e w' => e = .returned (.tuple #[.int .u32 (if c.recs then c.to else 0), .bool c.recs]) ∧ Below w.heap.size w w' := by
  obtain ⟨m, wi, t, d, r, o⟩ := c
  unfold Ctl.v
  cases r
  all_goals
    go_enter Try.func6, Try.ntmps6
    go_wp2
    go_ret2
    exact ⟨rfl, below_alloc (Below.refl _ _) _ (Nat.le_refl _)⟩
end Go.Proofs.Ytkecfdngnbeinaa
