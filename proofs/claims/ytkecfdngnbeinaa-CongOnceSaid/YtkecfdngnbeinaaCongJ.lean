/- What the events of the law's loop leave, in plain words. -/
import Derived.Test.YtkecfdngnbeinaaCongI
namespace Go.Proofs.Ytkecfdngnbeinaa
set_option linter.unusedVariables false
set_option linter.unusedSimpArgs false
open Go.RowKit

theorem fit_set (c : Ctl) (h : Fit c) (x : Int) (hx : 0 ≤ x) : Fit (c.set x) := ⟨h.mss, by simp only [Ctl.set]; omega, h.thr⟩
theorem fit_new (m : Int) : Fit (Ctl.new m) := ⟨by simp only [Ctl.new]; omega, by simp only [Ctl.new, Ctl.first]; omega, by simp only [Ctl.new]; omega⟩
theorem fit_lost (c : Ctl) (h : Fit c) (f x : Int) : Fit (c.lost f x) := ⟨h.mss, h.win, by have := h.mss; simp only [Ctl.lost]; omega⟩
theorem fit_timeout (c : Ctl) (h : Fit c) (f x : Int) : Fit (c.timeout f x) := by
  have h1 := fit_lost c h f x
  exact fit_set { c.lost f x with recs := false, dups := 0 } ⟨h1.mss, h1.win, h1.thr⟩ c.mss (by have := h.mss; omega)
theorem fit_idle (c : Ctl) (h : Fit c) : Fit c.idle := fit_set c h _ (by have := h.mss; have := h.win; simp only [Ctl.first]; omega)
theorem fit_resize (c : Ctl) (h : Fit c) (m : Int) : Fit (c.resize m) := ⟨by simp only [Ctl.resize]; omega, h.win, h.thr⟩
theorem fit_acks {c d : Ctl} (h : Fit c) (ha : Acks c d) : Fit d := ⟨by rw [ha.mss]; exact h.mss, ha.win, by rw [ha.thr]; exact h.thr⟩
theorem fit_dup (c : Ctl) (h : Fit c) (f x : Int) : Fit (c.dup f x).1 := by
  have hm := h.mss
  have hw := h.win
  unfold Ctl.dup
  split
  · exact fit_set c h _ (by omega)
  · split
    · have h1 := fit_lost { c with dups := 3 } ⟨h.mss, h.win, h.thr⟩ f x
      have h2 := (fit_lost c h f x).thr
      exact fit_set { Ctl.lost { c with dups := 3 } f x with recs := true } ⟨h1.mss, h1.win, h1.thr⟩ _ (by omega)
    · exact ⟨h.mss, h.win, h.thr⟩
/-- What the law's loop asks of one event: du: how many answers it has counted. -/
structure Kept (c : Ctl) (j n : Int) (d : Ctl) (b : Bool) : Prop where
  fit : Fit d
  ack : j = 0 → 1 ≤ n → d.dups = 0 ∧ (c.recs = false → c.win ≤ d.win)
  out : j = 2 → d.dups = 0
  dup : (j = 1 ∨ j = 5) → c.recs = true → d.dups = c.dups ∧ b = false ∧ d.recs = true
  cnt : (j = 1 ∨ j = 5) → c.recs = false → d.dups = c.dups + 1 ∧ b = decide (c.dups + 1 = 3) ∧ d.recs = decide (c.dups + 1 = 3)
  rest : (j = 3 ∨ j = 4 ∨ (j = 0 ∧ n < 1)) → d.dups = c.dups ∧ d.recs = c.recs
theorem kept (c : Ctl) (h : Fit c) (j n : Int) (d : Ctl) (b : Bool) (hd : Did c j n d b) : Kept c j n d b := by
  rcases hd with ⟨rfl, h1, rfl, rfl⟩ | ⟨rfl, h1, ha, rfl⟩ | ⟨rfl, ⟨f, x, rfl⟩, rfl⟩ | ⟨rfl, rfl, rfl⟩ | ⟨rfl, ⟨m, rfl⟩, rfl⟩ | ⟨hj, f, x, rfl, rfl⟩
  · exact ⟨h, fun _ h2 => by omega, by omega, by omega, by omega, fun _ => ⟨rfl, rfl⟩⟩
  · exact ⟨fit_acks h ha, fun _ _ => ⟨ha.dups, fun hr => (ha.recs hr).2⟩, by omega, by omega, by omega, by omega⟩
  · exact ⟨fit_timeout c h f x, by omega, fun _ => rfl, by omega, by omega, by omega⟩
  · exact ⟨fit_idle c h, by omega, by omega, by omega, by omega, fun _ => ⟨rfl, rfl⟩⟩
  · exact ⟨fit_resize c h m, by omega, by omega, by omega, by omega, fun _ => ⟨rfl, rfl⟩⟩
  · refine ⟨fit_dup c h f x, by omega, by omega, fun _ hr => ?_, fun _ hr => ?_, by omega⟩
    · unfold Ctl.dup; rw [if_pos hr]; exact ⟨rfl, rfl, hr⟩
    · unfold Ctl.dup
      rw [if_neg (by simp [hr])]
      by_cases h3 : c.dups + 1 = 3
      · rw [if_pos h3, decide_eq_true h3]; exact ⟨by simp only [Ctl.set, Ctl.lost]; omega, rfl, rfl⟩
      · rw [if_neg h3, decide_eq_false h3]; exact ⟨rfl, rfl, hr⟩

/-- A slice of events that can be read. -/
def Stp.cells (s : Stp) : List Value := [.int .u8 s.kind, .int .i64 s.n, .int .u32 s.num, .int .i64 s.fl]
def SS (w : World) (v : Value) (ss : List Stp) : Prop :=
  ∃ A c, v = .slice A ss.length c ∧ ss.length ≤ c ∧ c ≤ 9223372036854775807 ∧ (∀ s ∈ ss, s.Ok) ∧
    ∀ (k : Nat) s, ss[k]? = some s → ∃ a : Addr, A = some a ∧ ∀ (j : Nat) u, s.cells[j]? = some u → w.cell? ((a.add (k * 4)).add j) = some u
theorem SS.below {w w' : World} {v : Value} {ss : List Stp} (h : SS w v ss) (hb : Below w.heap.size w w') : SS w' v ss := by
  obtain ⟨A, c, rfl, h1, h2, h3, h4⟩ := h
  refine ⟨A, c, rfl, h1, h2, h3, fun k s hk => ?_⟩
  obtain ⟨a, ha, hc⟩ := h4 k s hk
  exact ⟨a, ha, fun j u hu => (hb.cell (World.block_lt_of_cell? _ _ (hc j u hu))).trans (hc j u hu)⟩
end Go.Proofs.Ytkecfdngnbeinaa
