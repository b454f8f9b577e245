/- Walk: Blocks. -/
import Derived.Test.YtblkfpipmdfmkaaSackG
namespace Go.Proofs.Ytblkfpipmdfmkaa
set_option linter.unusedVariables false
set_option linter.unusedSimpArgs false
open Go.RowKit

def blkOf (f : Nat) (r : Nat × Nat) : Nat × Nat := ((f + r.1) % 4294967296, (f + r.2) % 4294967296)
theorem one_bcs (bs : List (Nat × Nat)) : ∀ u ∈ bcs bs, u.oneCell' = true := by
  intro u hu
  simp only [bcs, List.mem_flatMap, List.mem_cons, List.not_mem_nil, or_false] at hu
  obtain ⟨r, _, rfl | rfl⟩ := hu <;> rfl
theorem bcs_take (f : Nat) (rs : List (Nat × Nat)) (k : Nat) (h : k < rs.length) : bcs ((rs.take (k + 1)).map (blkOf f)) = bcs ((rs.take k).map (blkOf f)) ++ bcs [blkOf f (rs.getD k (0, 0))] := by
  rw [List.take_succ_eq_append_getElem h, List.map_append]
  simp [bcs, List.getD_eq_getElem?_getD, List.getElem?_eq_getElem h]
theorem info_blk : ∃ i z, Try.prog.info? 57 = some i ∧ i.zero = some z ∧ i.size = 2 ∧ i.bytes = 8 ∧ z.cells.size = 2 := by
  have h : ((Try.prog.info? 57).bind fun i => i.zero.map fun z => (i.size, i.bytes, z.cells.size)) = some (2, 8, 2) := by kernel_rfl
  cases hi : Try.prog.info? 57 with
  | none => rw [hi] at h; cases h
  | some i =>
    rw [hi] at h
    cases hz : i.zero with
    | none => simp [hz] at h
    | some z =>
      simp [hz] at h
      exact ⟨i, z, rfl, hz, h.1, h.2.1, h.2.2⟩
theorem exec_litR {P : Program} {o : Oper} {a : Act} {w : World} (t E : TypeId) (n : Nat) (parts : Array (Nat × Operand)) (ho : o.op = .buildSlice t n parts) (vals : Array (Nat × Value)) (hp : parts.map (fun (i, x) => (i, a.eval x)) = vals) (cs : Array Value)
    (hz : ∀ w, (Instr.buildSlice t n vals).run P w = .ok (.slice (some ⟨w.heap.size, 0, none⟩) n n) (w.alloc (.cells cs E))) : (execOp a.eval o).run P w = .ok (.value (.slice (some ⟨w.heap.size, 0, none⟩) n n)) (w.alloc (.cells cs E)) := by
  unfold execOp; simp only [ho, hp, Sem.run_bind, hz, Result.andThen_ok, Sem.run_pure]
set_option maxHeartbeats 4000000 in
theorem blocks_any (g f : Nat) (rs : List (Nat × Nat)) (w : World) (h : Brd w g f rs) (hr : OkR rs) (hf : f < 4294967296) :
    Calls Try.prog 31 #[.pointer (some ⟨g, 0, none⟩)] w fun e w' => ∃ v, e = .returned v ∧ w'.ownsRow w.heap.size 57 2 v rs.length (bcs (rs.map (blkOf f))) ∧ Below w.heap.size w w' := by
  have HO := hid (ok_yes g f rs w h)
  have hgl := h.lt
  obtain ⟨z1, A, c, c2, hrow⟩ := h.cells
  obtain ⟨ib, zb, hib, hzb, hb1, hb2, hb3⟩ := info_blk
  have htop := hrow.top
  have hcap := hrow.cap
  have HROW := hid hrow
  have HR := hid hr
  have hlen := hr.1
  have HZ1 := hid z1
  clear hrow h hr
  go_enter Try.func31, Try.ntmps31
  go_wp2_with fail
  (with_reducible refine Calls.mono HO.out ?_)
  rintro e w' ⟨rfl, rfl⟩
  go_wp2_with fail
  clear z1 c2
  go_loopw [3, 14] (fun l i wr => ∃ (k : Nat) (vl : Value), k ≤ rs.length ∧ i = .int .i64 k ∧ vl = l ∧ wr.ownsRow w.heap.size 57 2 vl k (bcs ((rs.take k).map (blkOf f))) ∧ Below w.heap.size w wr) (fun _ i _ => rs.length - (intOf i).toNat)
  case atStart => exact ⟨0, _, Nat.zero_le _, rfl, rfl, own_nil _ _ _ 2, Below.refl _ _⟩
  case round =>
    obtain ⟨k, vl, hk, rfl, rfl, ho, hb⟩ := hrel
    by_cases hlt : k < rs.length
    · have hrow := HROW.out.below hb
      obtain ⟨a, rfl⟩ := hrow.addr (by rw [rcs_length]; omega)
      obtain ⟨l0, l1⟩ := hrow.run k hlt
      have hg := HR.out.get k hlt
      have HTK := hid (bcs_take f rs k hlt)
      generalize rs.getD k (0, 0) = xy at *
      obtain ⟨x, y⟩ := xy
      simp only at l0 l1 hg
      have HX := hid (show IntKind.u32.wrap ((f : Int) + (x : Int)) = (((f + x) % 4294967296 : Nat) : Int) by rw [IntKind.wrap_u32]; omega)
      have HY := hid (show IntKind.u32.wrap ((f : Int) + (y : Int)) = (((f + y) % 4294967296 : Nat) : Int) by rw [IntKind.wrap_u32]; omega)
      have HX2 := hid (show IntKind.u32.wrap (x : Int) = (x : Int) by rw [IntKind.wrap_u32]; omega)
      have HY2 := hid (show IntKind.u32.wrap (y : Int) = (y : Int) by rw [IntKind.wrap_u32]; omega)
      rw [show blkOf f (x, y) = ((f + x) % 4294967296, (f + y) % 4294967296) from rfl] at HTK
      generalize (f + x) % 4294967296 = bx at *
      generalize (f + y) % 4294967296 = by' at *
      generalize (rs.take k).map (blkOf f) = ls at ho HTK
      have HHO := hid ho
      have HB := hid hb
      clear hrow ho hb
      go_wp2_with fail
      have HOX := hid (show some wr.heap.size ≠ vl.ownBlock from fun e => by have := (HHO.out.lt _ e.symm).2; omega)
      have x0 := cellRow (nw1 wr (.cells #[.int .i64 (x : Int), .int .i64 (y : Int)] 81)) 0
      have x1 := cellRow (nw1 wr (.cells #[.int .i64 (x : Int), .int .i64 (y : Int)] 81)) 1
      simp only [List.getElem?_toArray, List.getElem?_cons_succ, List.getElem?_cons_zero] at x0 x1
      have ho1 := own_below HHO.out (bl1 wr (.cells #[.int .i64 (x : Int), .int .i64 (y : Int)] 81))
      have hB1 := below_after HB.out (bl1 wr (.cells #[.int .i64 (x : Int), .int .i64 (y : Int)] 81)) (Nat.le_refl _)
      have g1 := keep_cell hB1 HZ1.out hgl
      clear l0 l1
      generalize wr.heap.size = xb at *
      generalize wr.alloc _ = W1 at *
      have hS0 : ({ W1 with drawn := W1.drawn + 1 } : World).cell? ⟨g, 1, none⟩ = some (.int .u32 (f : Int)) ∧ ({ W1 with drawn := W1.drawn + 1 } : World).cell? ⟨xb, 0, none⟩ = some (.int .i64 (x : Int)) ∧ ({ W1 with drawn := W1.drawn + 1 } : World).cell? ⟨xb, 1, none⟩ = some (.int .i64 (y : Int)) := ⟨g1, x0, x1⟩
      refine wp_region_hand (fun W' => W'.cell? ⟨g, 1, none⟩ = some (.int .u32 (f : Int)) ∧ W'.cell? ⟨xb, 0, none⟩ = some (.int .i64 (x : Int)) ∧ W'.cell? ⟨xb, 1, none⟩ = some (.int .i64 (y : Int))) (by kernel_rfl) hS0 ?_
      intro hS
      have ho : ({ W1 with drawn := W1.drawn + 1 } : World).ownsRow w.heap.size 57 2 vl k (bcs ls) := own_drewN ho1 1
      have hB : Below w.heap.size w { W1 with drawn := W1.drawn + 1 } := below_drewN hB1 1
      clear hS0 g1 x0 x1 ho1 hB1
      generalize ({ W1 with drawn := W1.drawn + 1 } : World) = u at hS ho hB ⊢
      refine wpAnyH_take (i := 0) (oi := ⟨some 18, _, _, _, _, _⟩) (v := ?_) rfl (by kernel_rfl) (by kernel_rfl) (by kernel_rfl) (fun _ _ _ h => h) (Or.inl ⟨by rfl, ?_⟩) hS ?_
      rotate_left 1
      focus ((intro W' hS'; go_simp) <;> with_reducible rfl)
      try simp only [Act.put, List.setIfInBounds_toArray, List.set_cons_zero, List.set_cons_succ]
      refine wpAnyH_take (i := 1) (oi := ⟨some 19, _, _, _, _, _⟩) (v := ?_) rfl (by kernel_rfl) (by kernel_rfl) (by kernel_rfl) (fun _ _ _ h => h) (Or.inl ⟨by rfl, ?_⟩) hS ?_
      rotate_left 1
      focus ((intro W' hS'; go_simp) <;> with_reducible rfl)
      try simp only [Act.put, List.setIfInBounds_toArray, List.set_cons_zero, List.set_cons_succ]
      refine wpAnyH_take (i := 2) (oi := ⟨some 20, _, _, _, _, _⟩) (v := ?_) rfl (by kernel_rfl) (by kernel_rfl) (by kernel_rfl) (fun _ _ _ h => h) (Or.inl ⟨by rfl, ?_⟩) hS ?_
      rotate_left 1
      focus ((intro W' hS'; go_simp) <;> with_reducible rfl)
      try simp only [Act.put, List.setIfInBounds_toArray, List.set_cons_zero, List.set_cons_succ]
      refine wpAnyH_take (i := 3) (oi := ⟨some 21, _, _, _, _, _⟩) (v := ?_) rfl (by kernel_rfl) (by kernel_rfl) (by kernel_rfl) (fun _ _ _ h => h) (Or.inl ⟨by rfl, ?_⟩) hS ?_
      rotate_left 1
      focus ((intro W' hS'; go_simp) <;> with_reducible rfl)
      try simp only [Act.put, List.setIfInBounds_toArray, List.set_cons_zero, List.set_cons_succ]
      refine wpAnyH_take (i := 4) (oi := ⟨some 22, _, _, _, _, _⟩) (v := ?_) rfl (by kernel_rfl) (by kernel_rfl) (by kernel_rfl) (fun _ _ _ h => h) (Or.inl ⟨by rfl, ?_⟩) hS ?_
      rotate_left 1
      focus ((intro W' hS'; have q1 := hS'.1; go_simp) <;> with_reducible rfl)
      try simp only [Act.put, List.setIfInBounds_toArray, List.set_cons_zero, List.set_cons_succ]
      refine wpAnyH_take (i := 5) (oi := ⟨some 23, _, _, _, _, _⟩) (v := ?_) rfl (by kernel_rfl) (by kernel_rfl) (by kernel_rfl) (fun _ _ _ h => h) (Or.inl ⟨by rfl, ?_⟩) hS ?_
      rotate_left 1
      focus ((intro W' hS'; go_simp) <;> with_reducible rfl)
      try simp only [Act.put, List.setIfInBounds_toArray, List.set_cons_zero, List.set_cons_succ]
      refine wpAnyH_take (i := 6) (oi := ⟨some 24, _, _, _, _, _⟩) (v := ?_) rfl (by kernel_rfl) (by kernel_rfl) (by kernel_rfl) (fun _ _ _ h => h) (Or.inl ⟨by rfl, ?_⟩) hS ?_
      rotate_left 1
      focus ((intro W' hS'; have q1 := hS'.2.1; go_simp) <;> with_reducible rfl)
      try simp only [Act.put, List.setIfInBounds_toArray, List.set_cons_zero, List.set_cons_succ]
      refine wpAnyH_take (i := 7) (oi := ⟨some 25, _, _, _, _, _⟩) (v := ?_) rfl (by kernel_rfl) (by kernel_rfl) (by kernel_rfl) (fun _ _ _ h => h) (Or.inl ⟨by rfl, ?_⟩) hS ?_
      rotate_left 1
      focus ((intro W' hS'; have q1 := HX2.out; go_simp) <;> with_reducible rfl)
      try simp only [Act.put, List.setIfInBounds_toArray, List.set_cons_zero, List.set_cons_succ]
      refine wpAnyH_take (i := 8) (oi := ⟨some 26, _, _, _, _, _⟩) (v := ?_) rfl (by kernel_rfl) (by kernel_rfl) (by kernel_rfl) (fun _ _ _ h => h) (Or.inl ⟨by rfl, ?_⟩) hS ?_
      rotate_left 1
      focus ((intro W' hS'; have q1 := HX.out; have q2 := HX2.out; go_simp) <;> with_reducible rfl)
      try simp only [Act.put, List.setIfInBounds_toArray, List.set_cons_zero, List.set_cons_succ]
      refine wpAnyH_take (i := 9) (oi := ⟨some 27, _, _, _, _, _⟩) (v := ?_) rfl (by kernel_rfl) (by kernel_rfl) (by kernel_rfl) (fun _ _ _ h => h) (Or.inl ⟨by rfl, ?_⟩) hS ?_
      rotate_left 1
      focus ((intro W' hS'; go_simp) <;> with_reducible rfl)
      try simp only [Act.put, List.setIfInBounds_toArray, List.set_cons_zero, List.set_cons_succ]
      refine wpAnyH_take (i := 10) (oi := ⟨some 28, _, _, _, _, _⟩) (v := ?_) rfl (by kernel_rfl) (by kernel_rfl) (by kernel_rfl) (fun _ _ _ h => h) (Or.inl ⟨by rfl, ?_⟩) hS ?_
      rotate_left 1
      focus ((intro W' hS'; go_simp) <;> with_reducible rfl)
      try simp only [Act.put, List.setIfInBounds_toArray, List.set_cons_zero, List.set_cons_succ]
      refine wpAnyH_take (i := 11) (oi := ⟨some 29, _, _, _, _, _⟩) (v := ?_) rfl (by kernel_rfl) (by kernel_rfl) (by kernel_rfl) (fun _ _ _ h => h) (Or.inl ⟨by rfl, ?_⟩) hS ?_
      rotate_left 1
      focus ((intro W' hS'; go_simp) <;> with_reducible rfl)
      try simp only [Act.put, List.setIfInBounds_toArray, List.set_cons_zero, List.set_cons_succ]
      refine wpAnyH_take (i := 12) (oi := ⟨some 30, _, _, _, _, _⟩) (v := ?_) rfl (by kernel_rfl) (by kernel_rfl) (by kernel_rfl) (fun _ _ _ h => h) (Or.inl ⟨by rfl, ?_⟩) hS ?_
      rotate_left 1
      focus ((intro W' hS'; have q1 := hS'.1; go_simp) <;> with_reducible rfl)
      try simp only [Act.put, List.setIfInBounds_toArray, List.set_cons_zero, List.set_cons_succ]
      refine wpAnyH_take (i := 13) (oi := ⟨some 31, _, _, _, _, _⟩) (v := ?_) rfl (by kernel_rfl) (by kernel_rfl) (by kernel_rfl) (fun _ _ _ h => h) (Or.inl ⟨by rfl, ?_⟩) hS ?_
      rotate_left 1
      focus ((intro W' hS'; go_simp) <;> with_reducible rfl)
      try simp only [Act.put, List.setIfInBounds_toArray, List.set_cons_zero, List.set_cons_succ]
      refine wpAnyH_take (i := 14) (oi := ⟨some 32, _, _, _, _, _⟩) (v := ?_) rfl (by kernel_rfl) (by kernel_rfl) (by kernel_rfl) (fun _ _ _ h => h) (Or.inl ⟨by rfl, ?_⟩) hS ?_
      rotate_left 1
      focus ((intro W' hS'; have q1 := hS'.2.2; go_simp) <;> with_reducible rfl)
      try simp only [Act.put, List.setIfInBounds_toArray, List.set_cons_zero, List.set_cons_succ]
      refine wpAnyH_take (i := 15) (oi := ⟨some 33, _, _, _, _, _⟩) (v := ?_) rfl (by kernel_rfl) (by kernel_rfl) (by kernel_rfl) (fun _ _ _ h => h) (Or.inl ⟨by rfl, ?_⟩) hS ?_
      rotate_left 1
      focus ((intro W' hS'; have q1 := HY2.out; go_simp) <;> with_reducible rfl)
      try simp only [Act.put, List.setIfInBounds_toArray, List.set_cons_zero, List.set_cons_succ]
      refine wpAnyH_take (i := 16) (oi := ⟨some 34, _, _, _, _, _⟩) (v := ?_) rfl (by kernel_rfl) (by kernel_rfl) (by kernel_rfl) (fun _ _ _ h => h) (Or.inl ⟨by rfl, ?_⟩) hS ?_
      rotate_left 1
      focus ((intro W' hS'; have q1 := HY.out; have q2 := HY2.out; go_simp) <;> with_reducible rfl)
      try simp only [Act.put, List.setIfInBounds_toArray, List.set_cons_zero, List.set_cons_succ]
      refine wpAnyH_take (i := 17) (oi := ⟨some 35, _, _, _, _, _⟩) (v := .agg #[.int .u32 (bx : Int), .int .u32 (by' : Int)]) rfl (by kernel_rfl) (by kernel_rfl) (by kernel_rfl) (fun _ _ _ h => h) (Or.inl ⟨by rfl, fun W' hS' => exec_buildR 57 _ rfl #[(0, .int .u32 (bx : Int)), (1, .int .u32 (by' : Int))] (by simp [Act.eval, Act.put]) _ (build_blk _ _)⟩) hS ?_
      try simp only [Act.put, List.setIfInBounds_toArray, List.set_cons_zero, List.set_cons_succ]
      refine anyH_one (i := 18) (by kernel_rfl) ⟨some 36, _, _, _, _, _⟩ rfl (by rfl) ?_
      refine wp_yield (exec_litR 46 57 1 _ rfl #[(0, .agg #[.int .u32 (bx : Int), .int .u32 (by' : Int)])] (by simp [Act.eval, Act.put]) _ (lit_blk _ _)) ?_
      have hn := nw1 u (.cells #[.int .u32 (bx : Int), .int .u32 (by' : Int)] 57)
      have hbn := bl1 u (.cells #[.int .u32 (bx : Int), .int .u32 (by' : Int)] 57)
      have ho2 := own_below ho hbn
      have hnl := Array.getElem?_eq_some_iff.1 hn
      have hBn := hB.trans (hbn.mono hB.size)
      have hS2 := And.intro (keep_cell hbn hS.1 (World.block_lt_of_cell? u _ hS.1)) (And.intro (keep_cell hbn hS.2.1 (World.block_lt_of_cell? u _ hS.2.1)) (keep_cell hbn hS.2.2 (World.block_lt_of_cell? u _ hS.2.2)))
      generalize u.heap.size = nb at hn ⊢
      generalize u.alloc _ = u2 at hn hbn ho2 hBn hS2 ⊢
      refine ⟨hS2, ?_⟩
      clear hS ho hB hbn
      have hS := hS2
      clear hS2
      try simp only [Act.put, List.setIfInBounds_toArray, List.set_cons_zero, List.set_cons_succ]
      refine anyH_one (i := 19) (by kernel_rfl) ⟨some 37, _, _, _, _, _⟩ rfl (by rfl) ?_
      refine wp_append_row u2 (.tmp 18) (.tmp 36) 46 rfl w.heap.size 57 ib zb 2 8 Try.underlying46 hib hzb hb1 hb2 hb3 (by decide) _ k (bcs ls) rfl ho2 _ 1 1 (bcs [(bx, by')]) rfl (Row.one_blk hn) (one_bcs _) (by show k + 1 ≤ 9223372036854775807; omega) (by omega) hBn.size ?_
      intro v3 u3 ho3 hg3 _
      have hS3 := And.intro (hg3.cell hS.1 (by intro e; have := own_ge ho2 g e.symm; omega)) (And.intro (hg3.cell hS.2.1 HOX.out) (hg3.cell hS.2.2 HOX.out))
      refine ⟨hS3, ?_⟩
      clear hS
      have hS := hS3
      try simp only [Act.put, List.setIfInBounds_toArray, List.set_cons_zero, List.set_cons_succ]
      refine wpAnyH_take (i := 20) (oi := ⟨some 3, _, _, _, _, _⟩) (v := ?_) rfl (by kernel_rfl) (by kernel_rfl) (by kernel_rfl) (fun _ _ _ h => h) (Or.inl ⟨by rfl, ?_⟩) hS ?_
      rotate_left 1
      focus ((intro W' hS'; go_simp) <;> with_reducible rfl)
      try simp only [Act.put, List.setIfInBounds_toArray, List.set_cons_zero, List.set_cons_succ]
      refine wpAnyH_done (by kernel_rfl) ?_ _
      have hB3 := below_grown hBn ho2 hg3 (Nat.le_refl _) (Nat.le_refl _)
      go_wp2_with fail
      go_roundw
      case rel => exact ⟨k + 1, v3, by omega, by go_num, rfl, by rw [HTK.out]; exact ho3, hB3⟩
      case measure => simp [intOf]; omega
    · obtain rfl : k = rs.length := by omega
      rw [List.take_length] at ho
      go_wp2_with fail
      go_ret
      exact ⟨_, rfl, ho, hb⟩
end Go.Proofs.Ytblkfpipmdfmkaa
