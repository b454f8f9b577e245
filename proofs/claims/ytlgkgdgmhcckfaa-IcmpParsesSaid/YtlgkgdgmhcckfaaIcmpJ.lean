/- Walks: Reply; the laws' far and alive. -/
import Derived.Test.YtlgkgdgmhcckfaaIcmpI
namespace Go.Proofs.Ytlgkgdgmhcckfaa
set_option linter.unusedVariables false
set_option linter.unusedSimpArgs false
open Go.RowKit

theorem two_facts {w W : World} {o1 o2 : Obj} (h : (w.alloc o1).alloc o2 = W) : W.heap[w.heap.size]? = some o1 ∧ W.heap[w.heap.size + 1]? = some o2 ∧ Below w.heap.size w W ∧ W.heap.size = w.heap.size + 2 := by
  obtain ⟨W', hW', h1⟩ := two_blocks w o1 o2
  rw [← h, ← hW']; exact h1
set_option maxHeartbeats 1000000 in
theorem reply_any (m : Msg) (dv : Value) (w : World) (hd : RB w dv m.data) (hl : m.data.length ≤ 3008) :
    Calls Try.prog 20 #[m.v dv] w fun e w' => ∃ dv', e = .returned (.tuple #[(replyS m).v dv', .bool (decide (m.kind = 1))]) ∧ RB w' dv' (replyS m).data ∧ Below w.heap.size w w' := by
  have hd0 := hid hd
  obtain ⟨A, c, rfl, hrow⟩ := hd
  clear hrow
  unfold replyS
  by_cases h1 : m.kind = 1
  · rw [if_pos h1, decide_eq_true h1]
    obtain ⟨k, co, i, sq, u, dt⟩ := m
    simp only at *
    subst h1
    go_enter Try.func20, Try.ntmps20
    unfold Msg.v Msg.cells
    go_wp2_with fail
    generalize hW : (w.alloc _).alloc _ = W
    obtain ⟨f0, f1, fb, fs⟩ := two_facts hW
    clear hW
    obtain ⟨c0, c1, c2, c3, c4, c5⟩ := msg_cells (m := ⟨_, _, _, _, _, dt⟩) f0
    simp only at c0 c1 c2 c3 c4 c5
    have b2 : w.heap.size < w.heap.size + 1 := by omega
    refine wp_region_hand (fun W' => Below (w.heap.size + 1) W W') (by kernel_rfl) (below_drewN (Below.refl _ _) 1) ?_
    intro hS
    have g1 : ({ W with drawn := W.drawn + 1 } : World).heap[w.heap.size + 1]? = _ := f1
    have gs : ({ W with drawn := W.drawn + 1 } : World).heap.size = w.heap.size + 2 := fs
    generalize ({ W with drawn := W.drawn + 1 } : World) = w3 at hS g1 gs ⊢
    refine wpAnyH_take (i := 0) (oi := ⟨some 8, _, _, _, _, _⟩) (v := ?_) rfl (by kernel_rfl) (by kernel_rfl) (by kernel_rfl) (fun _ _ _ h => h) (Or.inl ⟨by rfl, ?_⟩) hS ?_
    rotate_left 1
    focus ((intro W' hS'; go_simp) <;> with_reducible rfl)
    try simp only [Act.put, List.setIfInBounds_toArray, List.set_cons_zero, List.set_cons_succ]
    refine wpAnyH_take (i := 1) (oi := ⟨some 9, _, _, _, _, _⟩) (v := ?_) rfl (by kernel_rfl) (by kernel_rfl) (by kernel_rfl) (fun _ _ _ h => h) (Or.inl ⟨by rfl, ?_⟩) hS ?_
    rotate_left 1
    focus ((intro W' hS'; have q1 := keep_cell hS' c2 b2; go_simp) <;> with_reducible rfl)
    try simp only [Act.put, List.setIfInBounds_toArray, List.set_cons_zero, List.set_cons_succ]
    refine wpAnyH_take (i := 2) (oi := ⟨some 10, _, _, _, _, _⟩) (v := ?_) rfl (by kernel_rfl) (by kernel_rfl) (by kernel_rfl) (fun _ _ _ h => h) (Or.inl ⟨by rfl, ?_⟩) hS ?_
    rotate_left 1
    focus ((intro W' hS'; go_simp) <;> with_reducible rfl)
    try simp only [Act.put, List.setIfInBounds_toArray, List.set_cons_zero, List.set_cons_succ]
    refine wpAnyH_take (i := 3) (oi := ⟨some 11, _, _, _, _, _⟩) (v := ?_) rfl (by kernel_rfl) (by kernel_rfl) (by kernel_rfl) (fun _ _ _ h => h) (Or.inl ⟨by rfl, ?_⟩) hS ?_
    rotate_left 1
    focus ((intro W' hS'; have q1 := keep_cell hS' c3 b2; go_simp) <;> with_reducible rfl)
    try simp only [Act.put, List.setIfInBounds_toArray, List.set_cons_zero, List.set_cons_succ]
    refine wpAnyH_take (i := 4) (oi := ⟨some 12, _, _, _, _, _⟩) (v := ?_) rfl (by kernel_rfl) (by kernel_rfl) (by kernel_rfl) (fun _ _ _ h => h) (Or.inl ⟨by rfl, ?_⟩) hS ?_
    rotate_left 1
    focus ((intro W' hS'; go_simp) <;> with_reducible rfl)
    try simp only [Act.put, List.setIfInBounds_toArray, List.set_cons_zero, List.set_cons_succ]
    refine wpAnyH_take (i := 5) (oi := ⟨some 13, _, _, _, _, _⟩) (v := ?_) rfl (by kernel_rfl) (by kernel_rfl) (by kernel_rfl) (fun _ _ _ h => h) (Or.inl ⟨by rfl, ?_⟩) hS ?_
    rotate_left 1
    focus ((intro W' hS'; have q1 := keep_cell hS' c5 b2; go_simp) <;> with_reducible rfl)
    try simp only [Act.put, List.setIfInBounds_toArray, List.set_cons_zero, List.set_cons_succ]
    refine anyH_one (i := 6) (by kernel_rfl) ⟨some 14, _, _, _, _, _⟩ rfl (by rfl) ?_
    go_simp
    with_reducible refine Calls.mono (clone_any _ dt _ (hd0.out.below (fb.trans (hS.mono (by omega)))) (by omega)) ?_
    rintro e wC ⟨A3, n3, rfl, ho3, hb3⟩
    have hrb3 := ho3.rb
    have hlo := ho3.where
    have hg3 := (hb3.block _ (by omega)).trans g1
    have hS := hS.trans (hb3.mono (by omega))
    refine ⟨hS, ?_⟩
    refine wpAnyH_take (i := 7) (oi := ⟨some 15, _, _, _, _, _⟩) (v := ?_) rfl (by kernel_rfl) (by kernel_rfl) (by kernel_rfl) (fun _ _ _ h => h) (Or.inl ⟨by rfl, ?_⟩) hS ?_
    rotate_left 1
    focus ((intro W' hS'; go_simp) <;> with_reducible rfl)
    try simp only [Act.put, List.setIfInBounds_toArray, List.set_cons_zero, List.set_cons_succ]
    refine anyH_one (i := 8) (by kernel_rfl) ⟨none, _, _, _, _, _⟩ rfl (by rfl) ?_
    refine wp_store_row _ _ _ rfl _ _ rfl rfl _ _ hg3 infoM rfl (by simp [Value.oneCell']) ?_
    have hS := belowSetRow (b := w.heap.size + 1) hS (Nat.le_refl _) #[.int .i64 2, .int .u8 0, .int .u16 i, .int .u16 sq, .int .u32 0, .slice A3 dt.length n3]
    refine ⟨hS, ?_⟩
    refine wpAnyH_take (i := 9) (oi := ⟨some 3, _, _, _, _, _⟩) (v := ?_) rfl (by kernel_rfl) (by kernel_rfl) (by kernel_rfl) (fun _ _ _ h => h) (Or.inl ⟨by rfl, ?_⟩) hS ?_
    rotate_left 1
    focus ((intro W' hS'; go_simp) <;> with_reducible rfl)
    try simp only [Act.put, List.setIfInBounds_toArray, List.set_cons_zero, List.set_cons_succ]
    refine wpAnyH_done (by kernel_rfl) ?_ _
    go_wp2_with fail
    exact msg_ret2 (m := ⟨2, 0, i, sq, 0, dt⟩) (dv := .slice A3 dt.length n3) rfl rfl rfl (rowSetRow hg3 _) ⟨.slice A3 dt.length n3, rfl, hrb3.setRowNe _ (fun a ha hn => by have := hlo a ha hn; omega), fb.trans (hS.mono (by omega))⟩
  · rw [if_neg h1, decide_eq_false h1]
    have hk : (m.kind != 1) = true := by simp [h1]
    clear h1
    obtain ⟨k, co, i, sq, u, dt⟩ := m
    simp only at *
    go_enter Try.func20, Try.ntmps20
    unfold Msg.v Msg.cells
    go_wp2_with fail
    exact msg_ret2 (m := noMsg) (dv := .slice none 0 0) rfl rfl rfl (two_facts rfl).2.1 ⟨.slice none 0 0, rfl, RB.nil _, (two_facts rfl).2.2.1⟩
theorem far_any (m : Msg) (dv : Value) (w : World) (hd : RB w dv m.data) :
    Calls Try.prog 8 #[m.v dv] w fun e w' => e = .returned (.bool (decide (3000 < m.data.length))) ∧ Below w.heap.size w w' := by
  obtain ⟨A, c, rfl, hrow⟩ := hd
  obtain ⟨k, co, i, sq, u, dt⟩ := m
  have hcap := hrow.cap
  have htop := hrow.top
  simp only at *
  clear hrow
  go_enter Try.func8, Try.ntmps8
  unfold Msg.v Msg.cells
  go_wp2_with fail
  go_ret
  exact ⟨congrArg Ending.returned (congrArg Value.bool (by simp; omega)), (one_facts rfl).2.1⟩
/-- The address of no bytes. -/
def adr0 : Adr := ⟨false, 0, 0, 0, 0, 0, 0, 0, 0, 0, 0, 0, 0, 0, 0, 0, 0⟩
def ask0 : Msg := ⟨1, 0, 1, 2, 0, []⟩
theorem ask0_ok : ask0.Ok := ⟨by decide, by decide, by decide, by decide, by decide⟩
theorem lay0 : layS ask0 adr0 adr0 = [8, 0, 0xf7, 0xfc, 0, 1, 0, 2] ∧ lerr ask0 adr0 = 0 := by decide +kernel
theorem parse0 : perrS [8, 0, 0xf7, 0xfc, 0, 1, 0, 2] adr0 adr0 = 0 := by decide +kernel
theorem parse1 : parseS [8, 0, 0xf7, 0xfc, 0, 1, 0, 2] adr0 adr0 = ask0 := by
  rw [← lay0.1]; exact (parse_lay ask0 ask0_ok adr0 adr0 (by decide +kernel)).2
end Go.Proofs.Ytlgkgdgmhcckfaa
