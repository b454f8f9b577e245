/- Walks: a run is joined to a board that has none. -/
import Derived.Test.YtblkfpipmdfmkaaSackC
namespace Go.Proofs.Ytblkfpipmdfmkaa
set_option linter.unusedVariables false
set_option linter.unusedSimpArgs false
open Go.RowKit

theorem bsearch_nil (x : Int) (fv : Value) (w : World) : Calls Try.prog 51 #[.slice none 0 0, .int .i64 x, fv] w fun e w' => e = .returned (.tuple #[.int .i64 0, .bool false]) ∧ w = w' := by
  go_enter Try.func51, Try.ntmps51
  go_wp2_with fail
  go_loop [9, 10] (fun i j => i = .int .i64 0 ∧ j = .int .i64 0) (fun _ _ => 0)
  case atStart => exact ⟨rfl, rfl⟩
  case round =>
    obtain ⟨rfl, rfl⟩ := hrel
    go_wp2_with fail
    go_ret2
    exact ⟨rfl, rfl⟩
theorem info_run : ∃ i z, Try.prog.info? 81 = some i ∧ i.zero = some z ∧ i.size = 2 ∧ i.bytes = 16 ∧ z.cells.size = 2 := by
  have h : ((Try.prog.info? 81).bind fun i => i.zero.map fun z => (i.size, i.bytes, z.cells.size)) = some (2, 16, 2) := by kernel_rfl
  cases hi : Try.prog.info? 81 with
  | none => rw [hi] at h; cases h
  | some i =>
    rw [hi] at h
    cases hz : i.zero with
    | none => simp [hz] at h
    | some z =>
      simp [hz] at h
      exact ⟨i, z, rfl, hz, h.1, h.2.1, h.2.2⟩
theorem one_rcs (rs : List (Nat × Nat)) : ∀ u ∈ rcs rs, u.oneCell' = true := by
  intro u hu
  simp only [rcs, List.mem_flatMap, List.mem_cons, List.not_mem_nil, or_false] at hu
  obtain ⟨r, _, rfl | rfl⟩ := hu <;> rfl
theorem insert_nil (vb : Nat) (r : Nat × Nat) (w : World) (hv : Row w 2 (some ⟨vb, 0, none⟩) 1 1 (rcs [r])) : Calls Try.prog 53 #[.slice none 0 0, .int .i64 0, .slice (some ⟨vb, 0, none⟩) 1 1] w fun e w' =>
    ∃ A c d, e = .returned (.slice A 1 c) ∧ Row w' 2 A 1 c (rcs [r]) ∧ InB A d ∧ w.heap.size ≤ d ∧ Below w.heap.size w w' ∧ w'.ownsRow w.heap.size 81 2 (.slice A 1 c) 1 (rcs [r]) := by
  obtain ⟨i, z, hi, hz, h1, h2, h3⟩ := info_run
  have HV := hid hv
  clear hv
  go_enter Try.func53, Try.ntmps53
  go_wp2_with (first
    | ((with_reducible refine at_slot 25 ?_); refine wpList_append_row w rfl (.tmp 23) (.tmp 24) 74 rfl w.heap.size 81 i z 2 16 Try.underlying74 hi hz h1 h2 h3 (by decide) _ 0 [] rfl (own_nil w _ _ 2) _ 1 1 (rcs [r]) rfl HV.out (one_rcs _) (by decide) (by decide) (Nat.le_refl _) ?_; intro v1 w1 ho1 hg1 hk1))
  have hin : ∃ d, (∀ A c, v1 = .slice A 1 c → InB A d) ∧ w.heap.size ≤ d := by
    rcases ho1.2 with ⟨h1, _⟩ | ⟨g, cap, cur, h1, hb, _⟩
    · exact ⟨w.heap.size, (by intro A c e; rw [h1] at e; cases e), Nat.le_refl _⟩
    · exact ⟨g, (by intro A c e; rw [h1] at e; injection e with e _ _; subst e; exact InB.some _ _), hb⟩
  obtain ⟨d, hd1, hd2⟩ := hin
  obtain ⟨A, c, rfl, hrow⟩ := Row.of_own ho1
  have hd1 := hd1 A c rfl
  have hb : Below w.heap.size w w1 := (Below.refl _ w).grown hg1 (Nat.le_refl _) (fun j hj => by cases hj)
  go_wp2_with fail
  go_ret
  exact ⟨A, c, d, rfl, by simpa using hrow, hd1, hd2, hb, by simpa using ho1⟩
theorem Brd.cells {w : World} {g f : Nat} {rs : List (Nat × Nat)} (h : Brd w g f rs) : w.cell? ⟨g, 1, none⟩ = some (.int .u32 (f : Int)) ∧ ∃ A c, w.cell? ⟨g, 2, none⟩ = some (.slice A rs.length c) ∧ Row w 2 A rs.length c (rcs rs) := by
  obtain ⟨A, c, h1, h2, _⟩ := h
  exact ⟨by have := cellRow h1 1; simpa using this, A, c, by have := cellRow h1 2; simpa using this, h2⟩
theorem build_run (x y : Int) : ∀ w, (Instr.buildSlice 74 1 #[(0, .agg #[.int .i64 x, .int .i64 y])]).run Try.prog w = .ok (.slice (some ⟨w.heap.size, 0, none⟩) 1 1) (w.alloc (.cells #[.int .i64 x, .int .i64 y] 81)) := by intro w; kernel_rfl
theorem Row.one_run {w : World} {b : Nat} {x y : Nat} {T : TypeId} (h : w.heap[b]? = some (.cells #[.int .i64 (x : Int), .int .i64 (y : Int)] T (0, 0))) : Row w 2 (some ⟨b, 0, none⟩) 1 1 (rcs [(x, y)]) := by
  refine ⟨rfl, Nat.le_refl _, by omega, fun k v hv => ⟨_, rfl, ?_⟩⟩
  have e : ((⟨b, 0, none⟩ : Addr).add k) = ⟨b, k, none⟩ := by
    unfold Addr.add
    split
    · rename_i h0; subst h0; rfl
    · simp
  rw [e, cellRow h k]
  rw [← hv]
  simp [rcs]
set_option maxHeartbeats 1000000 in
theorem join_nil (g f x y : Nat) (w : World) (h : Brd w g f []) (hx : x < y) (hy : y ≤ 65536) : Calls Try.prog 47 #[.pointer (some ⟨g, 0, none⟩), .agg #[.int .i64 (x : Int), .int .i64 (y : Int)]] w fun e w' =>
    e = .returned (.tuple #[]) ∧ Brd w' g f [(x, y)] ∧ Mod [g] w w' := by
  have hgl := h.lt
  obtain ⟨A, c, h1, hrow, _⟩ := h
  have c2 : ∀ o : Obj, (w.alloc o).cell? ⟨g, 2, none⟩ = some (.slice A 0 c) := fun o => by
    rw [World.cell?_alloc_lt w _ _ hgl]
    have := cellRow h1 2
    simpa using this
  have hcap := hrow.cap
  have htop := hrow.top
  clear hrow
  go_enter Try.func47, Try.ntmps47
  go_wp2_with fail
  go_loopw [4, 14] (fun l i wr => l = .slice none 0 0 ∧ i = .int .i64 0 ∧ wr = w.alloc (.cells #[.int .i64 (x : Int), .int .i64 (y : Int)] 81)) (fun _ _ _ => 0)
  case atStart => exact ⟨rfl, rfl, rfl⟩
  case round =>
    obtain ⟨rfl, rfl, rfl⟩ := hrel
    go_wp2_with fail
    (with_reducible refine Calls.mono (bsearch_nil _ _ _) ?_)
    rintro e w' ⟨rfl, rfl⟩
    go_wp2_with fail
    (with_reducible refine Calls.mono (insert_nil (w.heap.size + 1) (x, y) _ (Row.one_run (nw2 w _ _))) ?_)
    rintro e w2 ⟨A2, k2, d2, rfl, hrow2, hin2, hd2, hb2, hown2⟩
    have hg2 := (hb2.block g (by simp; omega)).trans ((Below.heap_alloc _ _ _ (by simp; omega)).trans ((Below.heap_alloc w _ _ hgl).trans h1))
    go_wp2_with (first
      | ((with_reducible refine at_store 60 58 ?_); refine wpList_partF rfl 74 (.tmp 60) (.tmp 58) rfl g 2 76 _ #[.bool true, .int .u32 (f : Int), .slice A2 1 k2] [.slice A2 1 k2] rfl rfl hg2 (Nat.le_refl 3) (by simp [Value.oneCell']) (by kernel_rfl) rfl ?_; intro w3 h3 m3 s3; clear s3))
    go_end0
    have hM : Mod [g] w w3 := ((Mod.of_below (below_after (bl2 w _ _) hb2 (Nat.le_refl _))).sub (by simp)).trans m3
    refine ⟨rfl, ⟨A2, k2, h3, hrow2.mod m3 hin2 (by simp at hd2 ⊢; omega), own_runs hown2 hg2 (by decide) (fun k hk hne => m3.block k hk (by simpa using hne))⟩, hM⟩
end Go.Proofs.Ytblkfpipmdfmkaa
