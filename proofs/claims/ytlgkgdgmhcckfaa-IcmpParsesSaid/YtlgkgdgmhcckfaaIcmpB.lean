/- Walks: whether two messages are the same; theirs and ours; the reference's kept and May. -/
import Derived.Test.YtlgkgdgmhcckfaaIcmpA
import Derived.Test.YtlgkgdgmhcckfaaEqual
import Derived.RegionTactic
namespace Go.Proofs.Ytlgkgdgmhcckfaa
set_option linter.unusedVariables false
set_option linter.unusedSimpArgs false
open Go.RowKit

set_option maxHeartbeats 1000000 in
theorem same_any (m n : Msg) (u v : Value) (w : World) (hu : RB w u m.data) (hv : RB w v n.data) :
    Calls Try.prog 15 #[m.v u, n.v v] w fun e w' => e = .returned (.bool (sameS m n)) ∧ Below w.heap.size w w' := by
  obtain ⟨k, co, i, s, t, d⟩ := m
  obtain ⟨k2, co2, i2, s2, t2, d2⟩ := n
  unfold Msg.v Msg.cells sameS
  simp only at hu hv ⊢
  go_enter Try.func15, Try.ntmps15
  go_wp2_with (go_at_call 33; refine (bequal_any u v d d2 _ ((hu.alloc _).alloc _) ((hv.alloc _).alloc _)).mono ?_; rintro e w' ⟨rfl, rfl⟩)
  all_goals
    go_ret
    refine ⟨congrArg Ending.returned (congrArg Value.bool ?_), below_alloc (below_alloc (Below.refl _ _) _ (Nat.le_refl _)) _ (Nat.le_refl _)⟩
    try clear q1 q2 q3
    rw [Bool.eq_iff_iff] <;> first
      | (simp at *; done)
      | (simp at *; intros; omega)
      | (simp at *; simp [*])
set_option maxHeartbeats 1000000 in
theorem rsame_any (m n : Msg) (u v : Value) (w : World) (hu : RB w u m.data) (hv : RB w v n.data) :
    Calls Try.prog 16 #[m.v u, n.v v] w fun e w' => e = .returned (.bool (sameS m n)) ∧ Below w.heap.size w w' := by
  obtain ⟨k, co, i, s, t, d⟩ := m
  obtain ⟨k2, co2, i2, s2, t2, d2⟩ := n
  have q1 := fun o1 o2 : Obj => conv_str ((hu.alloc o1).alloc o2)
  have q2 := fun o1 o2 : Obj => conv_str ((hv.alloc o1).alloc o2)
  have q3 := strOf_beq d d2
  unfold Msg.v Msg.cells sameS
  simp only at hu hv ⊢
  go_enter Try.func16, Try.ntmps16
  go_wp2_with fail
  all_goals
    go_ret
    refine ⟨congrArg Ending.returned (congrArg Value.bool ?_), below_alloc (below_alloc (Below.refl _ _) _ (Nat.le_refl _)) _ (Nat.le_refl _)⟩
    try clear q1 q2 q3
    rw [Bool.eq_iff_iff] <;> first
      | (simp at *; done)
      | (simp at *; intros; omega)
      | (simp at *; simp [*])
theorem new2 (w : World) (a b : Obj) : ((w.alloc a).alloc b).heap[w.heap.size + 1]? = some b := by
  have := heap_alloc_new (w.alloc a) b
  simpa using this
theorem below2 (w : World) (a b : Obj) : Below w.heap.size w ((w.alloc a).alloc b) :=
  below_alloc (below_alloc (Below.refl _ _) a (Nat.le_refl _)) b (by simp)
theorem infoM : (Try.prog.info? 36).map (·.size) = some 6 := by kernel_rfl
theorem infoR : (Try.prog.info? 26).map (·.size) = some 6 := by kernel_rfl
theorem msg_ret {fn : Func} {R : Ending → World → Prop} {tmps : Array Value} {w : World} {p : Tmp} {b : Nat} {m : Msg} {dv : Value} (hf : fn.results = #[.cell p 36]) (hp : tmps.getD p undef = .pointer (some ⟨b, 0, none⟩))
    (hb : w.heap[b]? = some (.cells (m.cells dv) 36 (0, 0))) (hR : R (.returned (m.v dv)) w) : bodyPost Try.prog fn R .ret ⟨tmps, []⟩ w :=
  bodyPost_ret (results_cell_row hf _ _ b _ _ _ _ hp hb Try.underlying36 rfl infoM) rfl hR
theorem rmsg_ret {fn : Func} {R : Ending → World → Prop} {tmps : Array Value} {w : World} {p : Tmp} {b : Nat} {m : Msg} {dv : Value} (hf : fn.results = #[.cell p 26]) (hp : tmps.getD p undef = .pointer (some ⟨b, 0, none⟩))
    (hb : w.heap[b]? = some (.cells (m.cells dv) 26 (0, 0))) (hR : R (.returned (m.v dv)) w) : bodyPost Try.prog fn R .ret ⟨tmps, []⟩ w :=
  bodyPost_ret (results_cell_row hf _ _ b _ _ _ _ hp hb Try.underlying26 rfl infoR) rfl hR
theorem theirs_any (m : Msg) (dv : Value) (w : World) (hd : RB w dv m.data) :
    Calls Try.prog 11 #[m.v dv] w fun e w' => e = .returned (m.v dv) ∧ Below w.heap.size w w' := by
  obtain ⟨A, c, rfl, _⟩ := hd
  go_enter Try.func11, Try.ntmps11
  unfold Msg.v Msg.cells
  go_wp2_with fail
  exact msg_ret (m := m) rfl rfl (new2 w _ _) ⟨rfl, below2 w _ _⟩
theorem ours_any (m : Msg) (dv : Value) (w : World) (hd : RB w dv m.data) :
    Calls Try.prog 19 #[m.v dv] w fun e w' => e = .returned (m.v dv) ∧ Below w.heap.size w w' := by
  obtain ⟨A, c, rfl, _⟩ := hd
  go_enter Try.func19, Try.ntmps19
  unfold Msg.v Msg.cells
  go_wp2_with fail
  exact rmsg_ret (m := m) rfl rfl (new2 w _ _) ⟨rfl, below2 w _ _⟩
/-- A message's fields that count. -/
def keptS (m : Msg) : Msg :=
  { kind := m.kind, code := if m.kind = 3 ∨ m.kind = 5 then m.code else 0, id := if m.kind = 1 ∨ m.kind = 2 then m.id else 0, seq := if m.kind = 1 ∨ m.kind = 2 then m.seq else 0, mtu := if m.kind = 4 then m.mtu else 0, data := m.data }
theorem new3 (w : World) (a b c : Obj) : (((w.alloc a).alloc b).alloc c).heap[w.heap.size + 1]? = some b := by
  rw [Below.heap_alloc _ _ _ (by simp)]; exact new2 w a b
theorem below3 (w : World) (a b c : Obj) : Below w.heap.size w (((w.alloc a).alloc b).alloc c) := below_alloc (below2 w a b) c (Nat.le_refl _)
set_option maxHeartbeats 1000000 in
theorem kept_any (m : Msg) (dv : Value) (w : World) (hd : RB w dv m.data) :
    Calls Try.prog 32 #[m.v dv] w fun e w' => e = .returned ((keptS m).v dv) ∧ Below w.heap.size w w' := by
  obtain ⟨A, c, rfl, _⟩ := hd
  have hx : ∃ r, r = keptS m := ⟨_, rfl⟩
  obtain ⟨r, hr⟩ := hx
  rw [← hr]
  obtain ⟨k, co, i, s, t, d⟩ := m
  simp only
  have h6 : k = 1 ∨ k = 2 ∨ k = 3 ∨ k = 5 ∨ k = 4 ∨ (k ≠ 1 ∧ k ≠ 2 ∧ k ≠ 3 ∧ k ≠ 4 ∧ k ≠ 5) := by omega
  rcases h6 with rfl | rfl | rfl | rfl | rfl | ⟨h1, h2, h3, h4, h5⟩
  all_goals
    have HK := hid hr
    clear hr
    go_enter Try.func32, Try.ntmps32
    unfold Msg.v Msg.cells
    go_wp2_with fail
  rotate_left 2
  iterate 4
    have e := HK.out
    unfold keptS at e
    try simp at e
    try simp [*] at e
    subst e
    exact rmsg_ret (m := ⟨_, _, _, _, _, _⟩) rfl rfl (new3 w _ _ _) ⟨rfl, below3 w _ _ _⟩
  all_goals
    go_region
    all_goals
      go_wp2_with fail
      have e := HK.out
      unfold keptS at e
      simp at e
      subst e
      exact rmsg_ret (m := ⟨_, _, _, _, _, _⟩) rfl rfl (new3 w _ _ _) ⟨rfl, below_drewN (below3 w _ _ _) 1⟩
theorem sameS_kept (m : Msg) (h : 1 ≤ m.kind ∧ m.kind ≤ 5) : sameS (keptS m) m = decide (((m.kind = 1 ∨ m.kind = 2) ∨ (m.id = 0 ∧ m.seq = 0)) ∧ ((m.kind = 3 ∨ m.kind = 5) ∨ m.code = 0) ∧ (m.kind = 4 ∨ m.mtu = 0)) := by
  unfold sameS keptS
  rw [Bool.eq_iff_iff]
  have h5 : m.kind = 1 ∨ m.kind = 2 ∨ m.kind = 3 ∨ m.kind = 4 ∨ m.kind = 5 := by omega
  rcases h5 with h | h | h | h | h <;> simp [h] <;> omega
end Go.Proofs.Ytlgkgdgmhcckfaa
