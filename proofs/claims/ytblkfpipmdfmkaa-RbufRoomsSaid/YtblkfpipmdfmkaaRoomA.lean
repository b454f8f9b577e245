/- Walks: what a buffer that nobody made answers. Walk: New of the document's buffer. Walk: far of layer 26. The law RbufRooms, layer 26. -/
import Derived.Test.YtblkfpipmdfmkaaRbM
import Derived.Test.YtblkfpipmdfmkaaRbS
namespace Go.Proofs.Ytblkfpipmdfmkaa
set_option linter.unusedVariables false
set_option linter.unusedSimpArgs false
open Go.RowKit

def noCells : Array Value := #[.pointer none, .slice none 0 0, .int .i64 0, .int .i64 0, .int .u32 0, .bool false]
/-- A nil buffer, or one that nobody made. -/
def NoF (w : World) (v : Value) : Prop := v = .pointer none ∨ ∃ b, v = .pointer (some ⟨b, 0, none⟩) ∧ w.heap[b]? = some (.cells noCells 50 (0, 0))
theorem NoF.below {w w' : World} {v : Value} (h : NoF w v) (hb : Below w.heap.size w w') : NoF w' v := by
  rcases h with rfl | ⟨b, rfl, h⟩
  · exact .inl rfl
  · exact .inr ⟨b, rfl, (hb.block b (Array.getElem?_eq_some_iff.1 h).1).trans h⟩
theorem okF_any (v : Value) (w : World) (h : NoF w v) : Calls Try.prog 27 #[v] w fun e w' => e = .returned (.bool false) ∧ w = w' := by
  rcases h with rfl | ⟨b, rfl, h⟩
  · go_enter Try.func27, Try.ntmps27
    go_wp2_with fail
    go_ret
    exact ⟨rfl, rfl⟩
  · have c0 : w.cell? ⟨b, 0, none⟩ = some (.pointer none) := cellRow h 0
    clear h
    go_enter Try.func27, Try.ntmps27
    go_wp2_with fail
    go_ret
    exact ⟨rfl, rfl⟩
theorem nextF_any (v : Value) (w : World) (h : NoF w v) : Calls Try.prog 13 #[v] w fun e w' => e = .returned (.int .u32 0) ∧ w = w' := by
  have HO := hid (okF_any v w h)
  clear h
  go_enter Try.func13, Try.ntmps13
  go_wp2_with fail
  (with_reducible refine Calls.mono HO.out ?_)
  rintro e w' ⟨rfl, rfl⟩
  go_wp2_with fail
  go_ret
  exact ⟨rfl, rfl⟩
theorem lenF_any (v : Value) (w : World) (h : NoF w v) : Calls Try.prog 14 #[v] w fun e w' => e = .returned (.int .i64 0) ∧ w = w' := by
  have HO := hid (okF_any v w h)
  clear h
  go_enter Try.func14, Try.ntmps14
  go_wp2_with fail
  (with_reducible refine Calls.mono HO.out ?_)
  rintro e w' ⟨rfl, rfl⟩
  go_wp2_with fail
  go_ret
  exact ⟨rfl, rfl⟩
theorem winF_any (v : Value) (w : World) (h : NoF w v) : Calls Try.prog 18 #[v] w fun e w' => e = .returned (.int .i64 0) ∧ w = w' := by
  have HO := hid (okF_any v w h)
  clear h
  go_enter Try.func18, Try.ntmps18
  go_wp2_with fail
  (with_reducible refine Calls.mono HO.out ?_)
  rintro e w' ⟨rfl, rfl⟩
  go_wp2_with fail
  go_ret
  exact ⟨rfl, rfl⟩
theorem outF_any (v : Value) (w : World) (h : NoF w v) : Calls Try.prog 20 #[v] w fun e w' => e = .returned (.int .i64 0) ∧ w = w' := by
  have HO := hid (okF_any v w h)
  clear h
  go_enter Try.func20, Try.ntmps20
  go_wp2_with fail
  (with_reducible refine Calls.mono HO.out ?_)
  rintro e w' ⟨rfl, rfl⟩
  go_wp2_with fail
  go_ret
  exact ⟨rfl, rfl⟩
theorem insF_any (v u s : Value) (w : World) (h : NoF w v) : Calls Try.prog 12 #[v, s, u] w fun e w' => e = .returned (.int .i64 0) ∧ w = w' := by
  have HO := hid (okF_any v w h)
  clear h
  go_enter Try.func12, Try.ntmps12
  go_wp2_with fail
  (with_reducible refine Calls.mono HO.out ?_)
  rintro e w' ⟨rfl, rfl⟩
  go_wp2_with fail
  go_ret
  exact ⟨rfl, rfl⟩
theorem readF_any (v : Value) (N : Int) (w : World) (h : NoF w v) : Calls Try.prog 11 #[v, .int .i64 N] w fun e w' => e = .returned (.slice none 0 0) ∧ w = w' := by
  have HO := hid (lenF_any v w h)
  clear h
  obtain ⟨M, hM⟩ : ∃ M : Int, max N 0 = M := ⟨_, rfl⟩
  have a1 : (if N < 0 then 0 else N) = M := by split <;> omega
  have a2 : (if 0 < N then N else 0) = M := by split <;> omega
  have a3 : (if N ≤ 0 then 0 else N) = M := by split <;> omega
  have b1 : min M 0 = 0 := by omega
  have b2 : (if (0 : Int) < M then 0 else M) = 0 := by split <;> omega
  have b3 : (if M < 0 then M else 0) = 0 := by split <;> omega
  go_enter Try.func11, Try.ntmps11
  go_wp2_with fail
  (with_reducible refine Calls.mono HO.out ?_)
  rintro e w' ⟨rfl, rfl⟩
  go_wp2_with fail
  go_ret
  exact ⟨rfl, rfl⟩
theorem blocksF_any (v : Value) (N : Int) (w : World) (h : NoF w v) : Calls Try.prog 23 #[v, .int .i64 N] w fun e w' => e = .returned (.slice none 0 0) ∧ Below w.heap.size w w' := by
  have HO := hid (fun W (h : NoF W v) => okF_any v W h)
  have HH := hid h
  rcases h with rfl | ⟨b, rfl, hx⟩
  · go_enter Try.func23, Try.ntmps23
    go_wp2_with fail
    (with_reducible refine Calls.mono (HO.out _ (HH.out.below (bl1 _ _))) ?_)
    rintro e w' ⟨rfl, rfl⟩
    go_wp2_with fail
    go_ret
    exact ⟨rfl, bl1 _ _⟩
  · clear hx
    go_enter Try.func23, Try.ntmps23
    go_wp2_with fail
    (with_reducible refine Calls.mono (HO.out _ (HH.out.below (bl1 _ _))) ?_)
    rintro e w' ⟨rfl, rfl⟩
    go_wp2_with fail
    go_ret
    exact ⟨rfl, bl1 _ _⟩
end Go.Proofs.Ytblkfpipmdfmkaa
namespace Go.Proofs.Ytblkfpipmdfmkaa
set_option linter.unusedVariables false
set_option linter.unusedSimpArgs false
open Go.RowKit

def bo (bs : List Bool) : List Value := bs.map Value.bool
theorem bo_length (bs : List Bool) : (bo bs).length = bs.length := by simp [bo]
theorem info_bool : (Try.prog.info? 4).map (fun i => (i.zero, i.size, i.bytes)) = some (some (.bool false), 1, 1) := by kernel_rfl
theorem madeB (n : Nat) : madeCells (Value.bool false).cells n = (bo (List.replicate n false)).toArray := by
  apply Array.ext
  · simp [size_madeCells, bo]
  · intro k h1 h2
    simp only [madeCells, bo, Value.cells]
    simp [Nat.mod_one]
theorem makeB_any (n : Nat) (w : World) (hn : n ≤ 1000000) : (Instr.makeSlice 40 (.int .i64 (n : Int)) (.int .i64 (n : Int))).run Try.prog w = .ok (.slice (some ⟨w.heap.size, 0, none⟩) n n) (w.alloc (.cells (bo (List.replicate n false)).toArray 4)) := by
  obtain ⟨i0, hi, hz0, hz1, hz2⟩ := info_parts info_bool
  have := run_makeSlice (P := Try.prog) w 40 4 i0 _ Try.underlying40 hi hz0 .i64 .i64 (n : Int) (n : Int) (by omega) (Int.le_refl _) (by rw [hz1]; simp; omega) (by rw [hz2]; omega) (by omega)
  rw [this, hz1]
  simp only [Int.toNat_natCast, Nat.mul_one]
  rw [madeB]
theorem wp_makeB {o : Oper} {a : Act} {K : Act → World → Prop} {Q : Exit → Act → World → Prop} {w : World} (x y : Operand) (ho : o.op = .makeSlice 40 x y) (n : Nat) (hx : a.eval x = .int .i64 (n : Int)) (hy : a.eval y = .int .i64 (n : Int)) (hn : n ≤ 1000000)
    (h : ∀ w', w'.heap[w.heap.size]? = some (.cells (bo (List.replicate n false)).toArray 4 (0, 0)) → Below w.heap.size w w' → w'.heap.size = w.heap.size + 1 → K (a.put o.dst (.slice (some ⟨w.heap.size, 0, none⟩) n n)) w') : o.wp Try.prog a w K Q := by
  refine wp_yield (v := .slice (some ⟨w.heap.size, 0, none⟩) n n) (w' := w.alloc (.cells (bo (List.replicate n false)).toArray 4)) ?_ (h _ (nw1 w _) (bl1 w _) (by simp))
  unfold execOp
  simp only [ho, hx, hy, Sem.run_bind, makeB_any n w hn, Result.andThen_ok, Sem.run_pure]
theorem wp_makeG {o : Oper} {a : Act} {K : Act → World → Prop} {Q : Exit → Act → World → Prop} {w : World} (x y : Operand) (ho : o.op = .makeSlice 40 x y) (n : Nat) (hx : a.eval x = .int .i64 (n : Int)) (hy : a.eval y = .int .i64 (n : Int)) (hn : n ≤ 1000000)
    (h : ∀ g w', w.heap.size = g → w'.heap[g]? = some (.cells (bo (List.replicate n false)).toArray 4 (0, 0)) → Below w.heap.size w w' → w'.heap.size = g + 1 → K (a.put o.dst (.slice (some ⟨g, 0, none⟩) n n)) w') : o.wp Try.prog a w K Q :=
  wp_makeB x y ho n hx hy hn fun w' h1 h2 h3 => h _ w' rfl h1 h2 h3
theorem wp_makeH {o : Oper} {a : Act} {K : Act → World → Prop} {Q : Exit → Act → World → Prop} {w : World} (x y : Operand) (ho : o.op = .makeSlice 32 x y) (n : Nat) (hx : a.eval x = .int .i64 (n : Int)) (hy : a.eval y = .int .i64 (n : Int)) (hn : n ≤ 1000000)
    (h : ∀ g w', w.heap.size = g → w'.heap[g]? = some (.cells (by8 (List.replicate n 0)).toArray 5 (0, 0)) → Below w.heap.size w w' → w'.heap.size = g + 1 → K (a.put o.dst (.slice (some ⟨g, 0, none⟩) n n)) w') : o.wp Try.prog a w K Q :=
  wp_make8 x y ho n hx hy hn fun w' h1 h2 h3 => h _ w' rfl h1 h2 h3
def refC (R f : Nat) (vi vc vo : Value) (last : Nat) (has : Bool) : Array Value := #[.int .i64 (R : Int), .int .u32 (f : Int), vi, vc, vo, .int .u32 (last : Int), .bool has]
theorem info_ref (R f : Nat) (vi vc vo : Value) (last : Nat) (has : Bool) : (Try.prog.info? 42).map (·.size) = some (refC R f vi vc vo last has).size := by
  have : (refC R f vi vc vo last has).size = 7 := rfl
  rw [this]
  exact (by kernel_rfl : (Try.prog.info? 42).map (·.size) = some 7)
theorem alloc_ref : ∀ w, (Instr.alloc 42 true (.tuple #[])).run Try.prog w = .ok (.pointer (some ⟨w.heap.size, 0, none⟩)) (w.alloc (.cells (refC 0 0 (.slice none 0 0) (.slice none 0 0) (.slice none 0 0) 0 false) 42)) := by intro w; kernel_rfl
theorem build_ref0 : ∀ w, (Instr.build 42 #[]).run Try.prog w = .ok (.agg (refC 0 0 (.slice none 0 0) (.slice none 0 0) (.slice none 0 0) 0 false)) w := by intro w; kernel_rfl
theorem build_ref (R f : Nat) (b c : Option Addr) (n k : Nat) : ∀ w, (Instr.build 42 #[(0, .int .i64 (R : Int)), (1, .int .u32 (f : Int)), (3, .slice b n k), (4, .slice c n k)]).run Try.prog w = .ok (.agg (refC R f (.slice none 0 0) (.slice b n k) (.slice c n k) 0 false)) w := by intro w; kernel_rfl
theorem refC_one (R f : Nat) (A B C : Option Addr) (n1 n2 n3 c1 c2 c3 : Nat) (last : Nat) (has : Bool) : (refC R f (.slice A n1 c1) (.slice B n2 c2) (.slice C n3 c3) last has).all (·.oneCell') = true := by simp [refC, Value.oneCell']
set_option maxRecDepth 20000 in
set_option maxHeartbeats 2000000 in
theorem rnewno_any (R : Int) (f : Nat) (w : World) (h1 : R < 1 ∨ 8192 < R) : Calls Try.prog 15 #[.int .i64 R, .int .u32 (f : Int)] w fun e w' => ∃ cs, e = .returned (.tuple #[.agg cs, .int .i64 1]) ∧ cs = refC 0 0 (.slice none 0 0) (.slice none 0 0) (.slice none 0 0) 0 false ∧ Below w.heap.size w w' := by
  have HA := hid alloc_ref
  have HZ := hid (info_ref 0 0 (.slice none 0 0) (.slice none 0 0) (.slice none 0 0) 0 false)
  have H1 := hid (refC_one 0 0 none none none 0 0 0 0 0 0 0 false)
  have HB := hid build_ref0
  by_cases hlt : R < 1
  · have t1 : decide (R < 1) = true := decide_eq_true hlt
    clear h1 hlt
    go_enter Try.func15, Try.ntmps15
    go_wp2_with (first
      | ((with_reducible refine at_slot 4 ?_); refine wpList_allocF rfl 42 rfl _ HA.out ?_; intro w1 h1 hb1 s1)
      | ((with_reducible refine at_build 42 ?_); refine wpList_buildF rfl 42 _ rfl #[] (by simp [Act.eval, Act.put]) _ HB.out ?_)
      | ((with_reducible refine at_store 4 12 ?_); refine wpList_rowF rfl 42 (.tmp 4) (.tmp 12) rfl w.heap.size 42 _ _ rfl rfl h1 HZ.out rfl H1.out ?_; intro w2 h2 m2 s2))
    exact ret_cell_tmp rfl rfl rfl h2 Try.underlying42 rfl HZ.out ⟨_, rfl, rfl, m2.below hb1 (Nat.le_refl _) (by simp)⟩
  · have h2 : 8192 < R := by omega
    have t1 : decide (R < 1) = false := decide_eq_false hlt
    have t2 : decide (8192 < R) = true := decide_eq_true h2
    clear h1 hlt h2
    go_enter Try.func15, Try.ntmps15
    go_wp2_with (first
      | ((with_reducible refine at_slot 4 ?_); refine wpList_allocF rfl 42 rfl _ HA.out ?_; intro w1 h1 hb1 s1)
      | ((with_reducible refine at_build 42 ?_); refine wpList_buildF rfl 42 _ rfl #[] (by simp [Act.eval, Act.put]) _ HB.out ?_)
      | ((with_reducible refine at_store 4 12 ?_); refine wpList_rowF rfl 42 (.tmp 4) (.tmp 12) rfl w.heap.size 42 _ _ rfl rfl h1 HZ.out rfl H1.out ?_; intro w2 h2 m2 s2))
    exact ret_cell_tmp rfl rfl rfl h2 Try.underlying42 rfl HZ.out ⟨_, rfl, rfl, m2.below hb1 (Nat.le_refl _) (by simp)⟩
set_option maxRecDepth 20000 in
set_option maxHeartbeats 2000000 in
theorem rnew_any (R f : Nat) (w : World) (h1 : 1 ≤ R) (h2 : R ≤ 8192) : Calls Try.prog 15 #[.int .i64 (R : Int), .int .u32 (f : Int)] w fun e w' => ∃ gc go, e = .returned (.tuple #[.agg (refC R f (.slice none 0 0) (.slice (some ⟨gc, 0, none⟩) (R + 1) (R + 1)) (.slice (some ⟨go, 0, none⟩) (R + 1) (R + 1)) 0 false), .int .i64 0]) ∧
      w'.heap[gc]? = some (.cells (bo (List.replicate (R + 1) false)).toArray 4 (0, 0)) ∧ w'.heap[go]? = some (.cells (by8 (List.replicate (R + 1) 0)).toArray 5 (0, 0)) ∧ w.heap.size ≤ gc ∧ w.heap.size ≤ go ∧ gc ≠ go ∧ Below w.heap.size w w' := by
  have t1 : decide ((R : Int) < 1) = false := by rw [decide_eq_false_iff_not]; omega
  have t2 : decide ((8192 : Int) < (R : Int)) = false := by rw [decide_eq_false_iff_not]; omega
  have t3 : decide (8192 < R) = false := by rw [decide_eq_false_iff_not]; omega
  have t4 : decide (R < 1) = false := by rw [decide_eq_false_iff_not]; omega
  have HA := hid alloc_ref
  obtain ⟨B, hB⟩ : ∃ x, w.heap.size = x := ⟨_, rfl⟩
  rw [hB]
  have HB := hid hB
  clear hB
  go_enter Try.func15, Try.ntmps15
  go_upto_region 1 with (first
      | ((with_reducible refine at_slot 4 ?_); refine wpList_allocF rfl 42 rfl _ HA.out ?_; intro w1 h1 hb1 s1))
  simp only [HB.out] at h1 hb1 s1 ⊢
  go_upto_region 3 with fail
  refine wp_region_hand (fun W => B + 1 ≤ W.heap.size) (by kernel_rfl) (Nat.le_of_eq s1.symm) ?_
  intro hS
  have hb : Below B w ({ w1 with drawn := w1.drawn + 1 } : World) := below_drewN hb1 1
  have hrow : ({ w1 with drawn := w1.drawn + 1 } : World).heap[B]? = _ := h1
  have hk1 : IntKind.i64.wrap ((R : Int) + 1) = ((R + 1 : Nat) : Int) := by rw [IntKind.wrap_i64]; omega
  clear h1 hb1 s1
  generalize ({ w1 with drawn := w1.drawn + 1 } : World) = u at hb hS hrow ⊢
  refine wpAnyH_take (i := 0) (oi := ⟨some 13, _, _, _, _, _⟩) (v := ?_) rfl (by kernel_rfl) (by kernel_rfl) (by kernel_rfl) (fun _ _ _ h => h) (Or.inl ⟨by rfl, ?_⟩) hS ?_
  rotate_left 1
  focus ((intro W' hS'; go_simp) <;> with_reducible rfl)
  try simp only [Act.put, List.setIfInBounds_toArray, List.set_cons_zero, List.set_cons_succ]
  refine wpAnyH_take (i := 1) (oi := ⟨some 14, _, _, _, _, _⟩) (v := ?_) rfl (by kernel_rfl) (by kernel_rfl) (by kernel_rfl) (fun _ _ _ h => h) (Or.inl ⟨by rfl, ?_⟩) hS ?_
  rotate_left 1
  focus ((intro W' hS'; go_simp) <;> with_reducible rfl)
  try simp only [Act.put, List.setIfInBounds_toArray, List.set_cons_zero, List.set_cons_succ]
  refine wpAnyH_take (i := 2) (oi := ⟨some 15, _, _, _, _, _⟩) (v := ?_) rfl (by kernel_rfl) (by kernel_rfl) (by kernel_rfl) (fun _ _ _ h => h) (Or.inl ⟨by rfl, ?_⟩) hS ?_
  rotate_left 1
  focus ((intro W' hS'; go_simp) <;> with_reducible rfl)
  try simp only [Act.put, List.setIfInBounds_toArray, List.set_cons_zero, List.set_cons_succ]
  refine wpAnyH_take (i := 3) (oi := ⟨some 16, _, _, _, _, _⟩) (v := ?_) rfl (by kernel_rfl) (by kernel_rfl) (by kernel_rfl) (fun _ _ _ h => h) (Or.inl ⟨by rfl, ?_⟩) hS ?_
  rotate_left 1
  focus ((intro W' hS'; skip; go_simp) <;> with_reducible rfl)
  try simp only [Act.put, List.setIfInBounds_toArray, List.set_cons_zero, List.set_cons_succ]
  refine wpAnyH_take (i := 5) (oi := ⟨some 18, _, _, _, _, _⟩) (v := ?_) rfl (by kernel_rfl) (by kernel_rfl) (by kernel_rfl) (fun _ _ _ h => h) (Or.inl ⟨by rfl, ?_⟩) hS ?_
  rotate_left 1
  focus ((intro W' hS'; go_simp) <;> with_reducible rfl)
  try simp only [Act.put, List.setIfInBounds_toArray, List.set_cons_zero, List.set_cons_succ]
  refine wpAnyH_take (i := 6) (oi := ⟨some 19, _, _, _, _, _⟩) (v := ?_) rfl (by kernel_rfl) (by kernel_rfl) (by kernel_rfl) (fun _ _ _ h => h) (Or.inl ⟨by rfl, ?_⟩) hS ?_
  rotate_left 1
  focus ((intro W' hS'; skip; go_simp) <;> with_reducible rfl)
  try simp only [Act.put, List.setIfInBounds_toArray, List.set_cons_zero, List.set_cons_succ]
  refine anyH_two (i := 4) (j := 7) (by kernel_rfl) (op_in ⟨some 17, _, _, _, _, _⟩ rfl (by rfl) ?_) (op_in ⟨some 20, _, _, _, _, _⟩ rfl (by rfl) ?_)
  · refine wp_makeG (.tmp 16) (.tmp 16) rfl (R + 1) rfl rfl (by omega) ?_
    intro gc w2 hg2 hx2 hb2 hz2
    have hS2 := hS
    have HG2 := hid hg2
    have HZ2 := hid hz2
    clear hz2 hg2
    try replace hx3 := (hb2.block _ (Array.getElem?_eq_some_iff.1 hx3).1).trans hx3
    replace hrow := (hb2.block _ (Array.getElem?_eq_some_iff.1 hrow).1).trans hrow
    replace hb := hb.trans (hb2.mono (Nat.le_of_succ_le hS))
    replace hS := Nat.le_trans hS hb2.size
    refine ⟨hS, ?_⟩
    try simp only [Act.put, List.setIfInBounds_toArray, List.set_cons_zero, List.set_cons_succ]
    refine anyH_one (i := 7) (by kernel_rfl) ⟨some 20, _, _, _, _, _⟩ rfl (by rfl) ?_
    refine wp_makeH (.tmp 19) (.tmp 19) rfl (R + 1) rfl rfl (by omega) ?_
    intro go w3 hg3 hx3 hb3 hz3
    have hS3 := hS
    have HG3 := hid hg3
    have HZ3 := hid hz3
    clear hz3 hg3
    try replace hx2 := (hb3.block _ (Array.getElem?_eq_some_iff.1 hx2).1).trans hx2
    replace hrow := (hb3.block _ (Array.getElem?_eq_some_iff.1 hrow).1).trans hrow
    replace hb := hb.trans (hb3.mono (Nat.le_of_succ_le hS))
    replace hS := Nat.le_trans hS hb3.size
    refine ⟨hS, ?_⟩
    try simp only [Act.put, List.setIfInBounds_toArray, List.set_cons_zero, List.set_cons_succ]
    refine wpAnyH_take (i := 8) (oi := ⟨some 21, _, _, _, _, _⟩) (v := .agg (refC R f (.slice none 0 0) (.slice (some ⟨gc, 0, none⟩) (R + 1) (R + 1)) (.slice (some ⟨go, 0, none⟩) (R + 1) (R + 1)) 0 false)) rfl (by kernel_rfl) (by kernel_rfl) (by kernel_rfl) (fun _ _ _ h => h) (Or.inl ⟨by rfl, fun W' hS' => exec_buildR 42 _ rfl #[(0, .int .i64 (R : Int)), (1, .int .u32 (f : Int)), (3, .slice (some ⟨gc, 0, none⟩) (R + 1) (R + 1)), (4, .slice (some ⟨go, 0, none⟩) (R + 1) (R + 1))] (by simp [Act.eval, Act.put]) _ (build_ref R f _ _ _ _)⟩) hS ?_
    try simp only [Act.put, List.setIfInBounds_toArray, List.set_cons_zero, List.set_cons_succ]
    refine anyH_one (i := 9) (by kernel_rfl) ⟨none, _, _, _, _, _⟩ rfl (by rfl) ?_
    refine wp_partF 42 (.tmp 4) (.tmp 21) rfl B 0 42 _ (refC R f (.slice none 0 0) (.slice (some ⟨gc, 0, none⟩) (R + 1) (R + 1)) (.slice (some ⟨go, 0, none⟩) (R + 1) (R + 1)) 0 false) (refC R f (.slice none 0 0) (.slice (some ⟨gc, 0, none⟩) (R + 1) (R + 1)) (.slice (some ⟨go, 0, none⟩) (R + 1) (R + 1)) 0 false).toList rfl rfl hrow (by simp [refC]) (fun u hu => by have := refC_one R f none (some ⟨gc, 0, none⟩) (some ⟨go, 0, none⟩) 0 (R + 1) (R + 1) 0 (R + 1) (R + 1) 0 false; rw [Array.all_eq_true_iff_forall_mem] at this; exact this u (by simpa using hu)) (by rw [Array.length_toList]; exact info_ref _ _ _ _ _ _ _) (by simp [refC]) ?_
    intro w4 h4 m4 s4
    have hz2 := HZ2.out
    have hz3 := HZ3.out
    have hg2 := HG2.out
    have hg3 := HG3.out
    have hx2' := m4.keeps hx2 (by simp; omega)
    have hx3' := m4.keeps hx3 (by simp; omega)
    have hb' := m4.below hb (Nat.le_of_eq HB.out.symm) (by simp)
    replace hS : B + 1 ≤ w4.heap.size := by rw [s4]; exact hS
    refine ⟨hS, ?_⟩
    try simp only [Act.put, List.setIfInBounds_toArray, List.set_cons_zero, List.set_cons_succ]
    refine wpAnyH_take (i := 10) (oi := ⟨some 5, _, _, _, _, _⟩) (v := ?_) rfl (by kernel_rfl) (by kernel_rfl) (by kernel_rfl) (fun _ _ _ h => h) (Or.inl ⟨by rfl, ?_⟩) hS ?_
    rotate_left 1
    focus ((intro W' hS'; go_simp) <;> with_reducible rfl)
    try simp only [Act.put, List.setIfInBounds_toArray, List.set_cons_zero, List.set_cons_succ]
    refine wpAnyH_done (by kernel_rfl) ?_ _
    go_wp2_with fail
    refine ret_cell_tmp rfl rfl rfl h4 Try.underlying42 rfl (info_ref _ _ _ _ _ _ _) ⟨gc, go, rfl, hx2', hx3', by omega, by omega, by omega, hb'⟩
  · refine wp_makeH (.tmp 19) (.tmp 19) rfl (R + 1) rfl rfl (by omega) ?_
    intro go w3 hg3 hx3 hb3 hz3
    have hS3 := hS
    have HG3 := hid hg3
    have HZ3 := hid hz3
    clear hz3 hg3
    try replace hx2 := (hb3.block _ (Array.getElem?_eq_some_iff.1 hx2).1).trans hx2
    replace hrow := (hb3.block _ (Array.getElem?_eq_some_iff.1 hrow).1).trans hrow
    replace hb := hb.trans (hb3.mono (Nat.le_of_succ_le hS))
    replace hS := Nat.le_trans hS hb3.size
    refine ⟨hS, ?_⟩
    try simp only [Act.put, List.setIfInBounds_toArray, List.set_cons_zero, List.set_cons_succ]
    refine anyH_one (i := 4) (by kernel_rfl) ⟨some 17, _, _, _, _, _⟩ rfl (by rfl) ?_
    refine wp_makeG (.tmp 16) (.tmp 16) rfl (R + 1) rfl rfl (by omega) ?_
    intro gc w2 hg2 hx2 hb2 hz2
    have hS2 := hS
    have HG2 := hid hg2
    have HZ2 := hid hz2
    clear hz2 hg2
    try replace hx3 := (hb2.block _ (Array.getElem?_eq_some_iff.1 hx3).1).trans hx3
    replace hrow := (hb2.block _ (Array.getElem?_eq_some_iff.1 hrow).1).trans hrow
    replace hb := hb.trans (hb2.mono (Nat.le_of_succ_le hS))
    replace hS := Nat.le_trans hS hb2.size
    refine ⟨hS, ?_⟩
    try simp only [Act.put, List.setIfInBounds_toArray, List.set_cons_zero, List.set_cons_succ]
    refine wpAnyH_take (i := 8) (oi := ⟨some 21, _, _, _, _, _⟩) (v := .agg (refC R f (.slice none 0 0) (.slice (some ⟨gc, 0, none⟩) (R + 1) (R + 1)) (.slice (some ⟨go, 0, none⟩) (R + 1) (R + 1)) 0 false)) rfl (by kernel_rfl) (by kernel_rfl) (by kernel_rfl) (fun _ _ _ h => h) (Or.inl ⟨by rfl, fun W' hS' => exec_buildR 42 _ rfl #[(0, .int .i64 (R : Int)), (1, .int .u32 (f : Int)), (3, .slice (some ⟨gc, 0, none⟩) (R + 1) (R + 1)), (4, .slice (some ⟨go, 0, none⟩) (R + 1) (R + 1))] (by simp [Act.eval, Act.put]) _ (build_ref R f _ _ _ _)⟩) hS ?_
    try simp only [Act.put, List.setIfInBounds_toArray, List.set_cons_zero, List.set_cons_succ]
    refine anyH_one (i := 9) (by kernel_rfl) ⟨none, _, _, _, _, _⟩ rfl (by rfl) ?_
    refine wp_partF 42 (.tmp 4) (.tmp 21) rfl B 0 42 _ (refC R f (.slice none 0 0) (.slice (some ⟨gc, 0, none⟩) (R + 1) (R + 1)) (.slice (some ⟨go, 0, none⟩) (R + 1) (R + 1)) 0 false) (refC R f (.slice none 0 0) (.slice (some ⟨gc, 0, none⟩) (R + 1) (R + 1)) (.slice (some ⟨go, 0, none⟩) (R + 1) (R + 1)) 0 false).toList rfl rfl hrow (by simp [refC]) (fun u hu => by have := refC_one R f none (some ⟨gc, 0, none⟩) (some ⟨go, 0, none⟩) 0 (R + 1) (R + 1) 0 (R + 1) (R + 1) 0 false; rw [Array.all_eq_true_iff_forall_mem] at this; exact this u (by simpa using hu)) (by rw [Array.length_toList]; exact info_ref _ _ _ _ _ _ _) (by simp [refC]) ?_
    intro w4 h4 m4 s4
    have hz2 := HZ2.out
    have hz3 := HZ3.out
    have hg2 := HG2.out
    have hg3 := HG3.out
    have hx2' := m4.keeps hx2 (by simp; omega)
    have hx3' := m4.keeps hx3 (by simp; omega)
    have hb' := m4.below hb (Nat.le_of_eq HB.out.symm) (by simp)
    replace hS : B + 1 ≤ w4.heap.size := by rw [s4]; exact hS
    refine ⟨hS, ?_⟩
    try simp only [Act.put, List.setIfInBounds_toArray, List.set_cons_zero, List.set_cons_succ]
    refine wpAnyH_take (i := 10) (oi := ⟨some 5, _, _, _, _, _⟩) (v := ?_) rfl (by kernel_rfl) (by kernel_rfl) (by kernel_rfl) (fun _ _ _ h => h) (Or.inl ⟨by rfl, ?_⟩) hS ?_
    rotate_left 1
    focus ((intro W' hS'; go_simp) <;> with_reducible rfl)
    try simp only [Act.put, List.setIfInBounds_toArray, List.set_cons_zero, List.set_cons_succ]
    refine wpAnyH_done (by kernel_rfl) ?_ _
    go_wp2_with fail
    refine ret_cell_tmp rfl rfl rfl h4 Try.underlying42 rfl (info_ref _ _ _ _ _ _ _) ⟨gc, go, rfl, hx2', hx3', by omega, by omega, by omega, hb'⟩
end Go.Proofs.Ytblkfpipmdfmkaa
namespace Go.Proofs.Ytblkfpipmdfmkaa
set_option linter.unusedVariables false
set_option linter.unusedSimpArgs false
open Go.RowKit

def farN (ss : List StpB) : Nat := (ss.map fun s => min s.p.length 10000).sum
theorem farN_take (ss : List StpB) (k : Nat) (h : k < ss.length) : farN (ss.take (k + 1)) = farN (ss.take k) + min (ss.getD k default).p.length 10000 := by
  unfold farN
  rw [List.take_succ_eq_append_getElem h, List.map_append, List.sum_append]
  simp [List.getD_eq_getElem?_getD, List.getElem?_eq_getElem h]
theorem farN_le (ss : List StpB) (k : Nat) : farN (ss.take k) ≤ k * 10000 := by
  induction k with
  | zero => simp [farN]
  | succ k ih =>
    by_cases h : k < ss.length
    · have h2 : min (ss.getD k default).p.length 10000 ≤ 10000 := Nat.min_le_right _ _
      rw [farN_take ss k h, Nat.succ_mul]
      exact Nat.add_le_add ih h2
    · have e1 : ss.take (k + 1) = ss.take k := by rw [List.take_of_length_le (by omega), List.take_of_length_le (by omega)]
      rw [e1, Nat.succ_mul]
      exact Nat.le_trans ih (Nat.le_add_right _ _)
theorem farN_mem : ∀ (ss : List StpB) (s : StpB), s ∈ ss → min s.p.length 10000 ≤ farN ss
  | x :: xs, s, h => by
    have e : farN (x :: xs) = min x.p.length 10000 + farN xs := by simp [farN]
    rcases List.mem_cons.1 h with rfl | h
    · omega
    · have := farN_mem xs s h
      omega
set_option maxHeartbeats 1000000 in
theorem farB_any (A : Option Addr) (c : Nat) (ss : List StpB) (w : World) (h : BRow w A c ss) :
    Calls Try.prog 8 #[.slice A ss.length c] w fun e w' => e = .returned (.bool (decide (3000 < farN (ss.take 60)))) ∧ Below w.heap.size w w' := by
  have HS := hid (shortB_any A ss.length c w h.row.cap h.row.top)
  have h2 := h.take 60
  have hl : min ss.length 60 = (ss.take 60).length := by rw [List.length_take]; omega
  have hl2 : (ss.take 60).length ≤ 60 := by rw [List.length_take]; omega
  rw [hl] at HS
  clear h hl
  generalize ss.take 60 = ts at h2 hl2 HS ⊢
  have HL := hid hl2
  have HR := hid h2
  clear h2 hl2
  go_enter Try.func8, Try.ntmps8
  go_wp2_with fail
  (with_reducible refine Calls.mono HS.out ?_)
  rintro e w' ⟨rfl, rfl⟩
  clear HS
  have hl2 := HL.out
  go_wp2_with fail
  go_loopw [3, 9] (fun n i wr => ∃ k : Nat, k ≤ ts.length ∧ i = .int .i64 k ∧ n = .int .i64 (farN (ts.take k)) ∧ Below w.heap.size w wr) (fun _ i _ => ts.length - (intOf i).toNat)
  case atStart => exact ⟨0, Nat.zero_le _, rfl, rfl, Below.refl _ _⟩
  case round =>
    obtain ⟨k, hk, rfl, rfl, hb⟩ := hrel
    by_cases hlt : k < ts.length
    · have hrow := HR.out.row.below hb
      obtain ⟨a, rfl⟩ := hrow.addr (by rw [sbs_length]; omega)
      obtain ⟨l0, l1, l2, l3⟩ := hrow.stB k hlt _ rfl
      have HF := hid (farN_take ts k hlt)
      have hfl := farN_le ts k
      generalize ts.getD k default = s at l0 l1 l2 l3 HF
      have HB := hid hb
      clear hrow hb
      obtain ⟨q, hq⟩ : ∃ q, min s.p.length 10000 = q := ⟨_, rfl⟩
      rw [hq] at HF
      have a1 : min (s.p.length : Int) 10000 = (q : Int) := by omega
      have a2 : (if (10000 : Int) < (s.p.length : Int) then 10000 else (s.p.length : Int)) = (q : Int) := by split <;> omega
      have a3 : (if (s.p.length : Int) < 10000 then (s.p.length : Int) else 10000) = (q : Int) := by split <;> omega
      have a4 : (if s.p.length < 10000 then (s.p.length : Int) else 10000) = (q : Int) := by split <;> omega
      have hq1 : q ≤ 10000 := by omega
      generalize hfn : farN (ts.take k) = fn at hfl HF ⊢
      have hfl2 : fn ≤ 600000 := by omega
      clear hq hfn hfl
      go_wp2_with fail
      go_roundw
      case rel => exact ⟨k + 1, by omega, by go_num, by rw [HF.out]; go_num, HB.out.alloc (by have := HB.out.size; omega) _⟩
      case measure => simp [intOf]; omega
    · obtain rfl : k = ts.length := by omega
      have hfl := farN_le ts ts.length
      rw [List.take_length] at hfl ⊢
      generalize hfn : farN ts = fn at hfl ⊢
      have HFN := hid hfn
      clear hfn
      have t1 : decide ((3000 : Int) < (fn : Int)) = decide (3000 < fn) := by rw [decide_eq_decide]; omega
      go_wp2_with fail
      go_ret
      rw [HFN.out]
      exact ⟨rfl, hb⟩
end Go.Proofs.Ytblkfpipmdfmkaa
namespace Go.Proofs.Ytblkfpipmdfmkaa
set_option linter.unusedVariables false
set_option linter.unusedSimpArgs false
open Go.RowKit

theorem newbufno_any (R : Int) (f : Nat) (w : World) (h1 : R < 1 ∨ 8192 < R) : Calls Try.prog 7 #[.int .i64 R, .int .u32 (f : Int)] w fun e w' => e = .returned (.tuple #[.pointer none, .int .i64 1]) ∧ w = w' := by
  by_cases hlt : R < 1
  · have t1 : decide (R < 1) = true := decide_eq_true hlt
    clear h1 hlt
    go_enter Try.func7, Try.ntmps7
    go_wp2_with fail
    go_ret2
    exact ⟨rfl, rfl⟩
  · have h2 : 8192 < R := by omega
    have t1 : decide (R < 1) = false := decide_eq_false hlt
    have t2 : decide (8192 < R) = true := decide_eq_true h2
    clear h1 hlt h2
    go_enter Try.func7, Try.ntmps7
    go_wp2_with fail
    go_ret2
    exact ⟨rfl, rfl⟩
def stpC (rd : Bool) (N ah : Int) (A : Option Addr) (n c : Nat) : Array Value := #[.bool rd, .int .i64 N, .int .i32 ah, .slice A n c]
theorem info_stpC (rd : Bool) (N ah : Int) (A : Option Addr) (n c : Nat) : (Try.prog.info? 34).map (·.size) = some (stpC rd N ah A n c).size := by
  have : (stpC rd N ah A n c).size = 4 := rfl
  rw [this]
  exact (by kernel_rfl : (Try.prog.info? 34).map (·.size) = some 4)
theorem lit_stp (rd : Bool) (N ah : Int) (A : Option Addr) (n c : Nat) : ∀ w, (Instr.buildSlice 24 1 #[(0, .agg (stpC rd N ah A n c))]).run Try.prog w = .ok (.slice (some ⟨w.heap.size, 0, none⟩) 1 1) (w.alloc (.cells (stpC rd N ah A n c) 34)) := by intro w; kernel_rfl
theorem build_noB : ∀ w, (Instr.build 50 #[]).run Try.prog w = .ok (.agg noCells) w := by intro w; kernel_rfl
theorem lit_twoB (b : Nat) : ∀ w, (Instr.buildSlice 51 2 #[(0, .pointer none), (1, .pointer (some ⟨b, 0, none⟩))]).run Try.prog w = .ok (.slice (some ⟨w.heap.size, 0, none⟩) 2 2) (w.alloc (.cells #[.pointer none, .pointer (some ⟨b, 0, none⟩)] 25)) := by intro w; kernel_rfl
theorem BRow.one {w : World} {b : Nat} {rd : Bool} {N ah : Int} {A : Option Addr} {c : Nat} {p : List UInt8} (h : w.heap[b]? = some (.cells (stpC rd N ah A p.length c) 34 (0, 0))) (h1 : -9223372036854775808 ≤ N ∧ N ≤ 9223372036854775807) (h2 : -2147483648 ≤ ah ∧ ah ≤ 2147483647) (hp : RB w (.slice A p.length c) p) : BRow w (some ⟨b, 0, none⟩) 1 [⟨rd, N, ah, A, c, p⟩] := by
  refine ⟨⟨rfl, Nat.le_refl _, by omega, fun k v hv => ⟨_, rfl, ?_⟩⟩, fun s hs => ?_⟩
  · have e : ((⟨b, 0, none⟩ : Addr).add k) = ⟨b, k, none⟩ := by
      unfold Addr.add
      split
      · rename_i h0; subst h0; rfl
      · simp
    rw [e, cellRow h k, ← hv]
    simp [sbs, StpB.cells, stpC]
  · obtain rfl : s = _ := List.mem_singleton.1 hs
    exact ⟨h1.1, h1.2, h2.1, h2.2, hp⟩
theorem farOne_any {W : World} {b : Nat} {rd : Bool} {N ah : Int} {A : Option Addr} {c : Nat} {p : List UInt8} (h : W.heap[b]? = some (.cells (stpC rd N ah A p.length c) 34 (0, 0))) (h1 : -9223372036854775808 ≤ N ∧ N ≤ 9223372036854775807) (h2 : -2147483648 ≤ ah ∧ ah ≤ 2147483647) (hp : RB W (.slice A p.length c) p) :
    ∃ t : Bool, Calls Try.prog 8 #[.slice (some ⟨b, 0, none⟩) 1 1] W fun e w' => e = .returned (.bool t) ∧ Below W.heap.size W w' :=
  ⟨_, farB_any (some ⟨b, 0, none⟩) 1 [⟨rd, N, ah, A, c, p⟩] W (BRow.one h h1 h2 hp)⟩
set_option maxRecDepth 100000 in
set_option maxHeartbeats 8000000 in
theorem lawRooms_any (room : Int) (next : Nat) (rd : Bool) (N ah : Int) (A : Option Addr) (c : Nat) (p : List UInt8) (w : World) (hroom : -9223372036854775808 ≤ room ∧ room ≤ 9223372036854775807) (hnext : next < 4294967296) (hN : -9223372036854775808 ≤ N ∧ N ≤ 9223372036854775807) (hah : -2147483648 ≤ ah ∧ ah ≤ 2147483647) (hp : RB w (.slice A p.length c) p) :
    Calls Try.prog 5 #[.int .i64 room, .int .u32 (next : Int), .agg (stpC rd N ah A p.length c)] w fun e w' => e = .returned (.bool true) ∧ Below w.heap.size w w' := by
  have hnext32 : next < M32 := hnext
  obtain ⟨mm, hmm⟩ : ∃ mm : Int, min room 9000 = mm := ⟨_, rfl⟩
  have m1 : (if (9000 : Int) < room then 9000 else room) = mm := by split <;> omega
  have m2 : (if room < (9000 : Int) then room else 9000) = mm := by split <;> omega
  have m3 : (if room ≤ (9000 : Int) then room else 9000) = mm := by split <;> omega
  have HA := hid alloc_ref
  have HP := hid hp
  have HN := hid hN
  have HAH := hid hah
  have HL := hid (lit_stp rd N ah A p.length c)
  have HI := hid (info_stpC rd N ah A p.length c)
  have HX1 : Hid ((stpC rd N ah A p.length c)[1]? = some (.int .i64 N) ∧ (stpC rd N ah A p.length c)[3]? = some (.slice A p.length c)) := hid ⟨rfl, rfl⟩
  have HROW := hid (fun (W : World) (b : Nat) (h : W.heap[b]? = some (.cells (stpC rd N ah A p.length c) 34 (0, 0))) (hp : RB W (.slice A p.length c) p) => farOne_any h hN hah hp)
  generalize stpC rd N ah A p.length c = sc at HL HI HROW HX1 ⊢
  have hb1 := bl1 w (.cells sc 34)
  have hs1 := nw1 w (.cells sc 34)
  clear hp hN hah
  by_cases hv : 1 ≤ room ∧ room ≤ 8192
  · obtain ⟨R, rfl⟩ := Int.eq_ofNat_of_zero_le (show 0 ≤ room by omega)
    obtain rfl : mm = (R : Int) := by omega
    have h1 : 1 ≤ R := by omega
    have h2 : R ≤ 8192 := by omega
    clear hmm hv hroom
    go_enter Try.func5, Try.ntmps5
    go_wp2_with fail
    (with_reducible refine Calls.mono (newbuf_any R next _ h1 h2) ?_)
    rintro e w2 ⟨gb, g, d, rfl, h2', g1, g2, g3, hb2⟩
    go_wp2_with fail
    (with_reducible refine Calls.mono (rnew_any R next _ h1 h2) ?_)
    rintro e w3 ⟨gc, go, rfl, _, _, _, _, _, hb3⟩
    have H3 := hid (h2'.below hb3)
    have HB3 := hid (below_after (below_after hb1 hb2 (by simp)) hb3 (Nat.le_refl _))
    have hs3 := (hb3.block _ (by have := hb2.size; simp at this; omega)).trans ((hb2.block _ (by simp)).trans hs1)
    simp only [World.alloc, Array.size_push] at g1 g2 g3
    have HG := hid (show w.heap.size ≤ gb ∧ w.heap.size ≤ g ∧ w.heap.size ≤ d by omega)
    clear h2' hb2 hb3 hb1 hs1 g1 g2 g3
    go_wp2_with (first
      | ((with_reducible refine at_slot 9 ?_); refine wpList_allocF rfl 42 rfl _ HA.out ?_; intro w4 h4 hb4 s4)
      | ((with_reducible refine at_store 9 24 ?_); refine wpList_rowF rfl 42 (.tmp 9) (.tmp 24) rfl w3.heap.size 42 _ _ rfl rfl h4 (info_ref _ _ _ _ _ _ _) rfl (refC_one _ _ _ _ _ _ _ _ _ _ _ _ _) ?_; intro w5 h5 m5 s5; (have hb5 : Below w3.heap.size w3 w5 := m5.below hb4 (Nat.le_refl _) (by simp)); (have hs5 := (hb5.block _ (Array.getElem?_eq_some_iff.1 hs3).1).trans hs3); clear m5 s5 hb4 h4 s4)
      | ((with_reducible refine at_slot 37 ?_); refine wpList_rowG rfl 34 (.tmp 5) rfl w.heap.size rfl 34 sc _ hs5 Try.underlying34 rfl HI.out ?_)
      | ((with_reducible refine at_slot 38 ?_); refine wpList_litF rfl 24 34 1 _ rfl #[(0, .agg sc)] (by simp [Act.eval, Act.put]) sc HL.out ?_; intro w6 h6 hb6 s6))
    have HB6 := hid (below_after (below_after HB3.out hb5 (Nat.le_refl _)) hb6 (Nat.le_refl _))
    have H6 := hid ((H3.out.below hb5).below hb6)
    have hs6 := (hb6.block _ (Array.getElem?_eq_some_iff.1 hs5).1).trans hs5
    clear hb5 hb6 hs5 hs3 HB3 H3
    obtain ⟨t, hfar⟩ := HROW.out _ _ h6 (HP.out.below HB6.out)
    (with_reducible refine Calls.mono hfar ?_)
    rintro e w7 ⟨rfl, hb7⟩
    have HB7 := hid (below_after HB6.out hb7 (Nat.le_refl _))
    have hs7 := (hb7.block _ (Array.getElem?_eq_some_iff.1 hs6).1).trans hs6
    have H7 := hid (H6.out.below hb7)
    clear H6
    clear hb7 hs6 h6 s6 HB6 hfar
    cases t
    rotate_left 1
    · go_wp2_with fail
      (with_reducible refine Calls.mono (alive26_any _) ?_)
      rintro e w8 ⟨rfl, hb8⟩
      go_wp2_with fail
      go_ret
      exact ⟨rfl, below_after HB7.out hb8 (Nat.le_refl _)⟩
    · go_wp2_with fail
      (with_reducible refine Calls.mono (bufwin_any gb g d _ _ H7.out (newB_ok R next h1 h2 hnext32)) ?_)
      rintro e w8 ⟨rfl, k8, rfl⟩
      have hw8 : (newB R next).R - (newB R next).n = R := rfl
      rw [hw8]
      have H8 := hid (H7.out.below (below_drewN (Below.refl _ _) k8))
      have HB8 := hid (below_drewN HB7.out k8)
      have hs8 : (w7.drewN k8).heap[w.heap.size]? = _ := hs7
      clear hs7 H7 HB7 hw8
      generalize w7.drewN k8 = w8 at H8 HB8 hs8 ⊢
      go_wp2_with fail
      (with_reducible refine Calls.mono (bufnext_any gb g d _ _ H8.out) ?_)
      rintro e wx ⟨rfl, rfl⟩
      have hf8 : (newB R next).f = next := rfl
      rw [hf8]
      clear hf8
      go_wp2_with fail
      (with_reducible refine Calls.mono (buflen_any gb g d _ _ H8.out) ?_)
      rintro e wx ⟨rfl, rfl⟩
      have hf8 : (newB R next).n = 0 := rfl
      rw [hf8]
      clear hf8
      go_wp2_with fail
      (with_reducible refine Calls.mono (bufout_any gb g d _ _ H8.out (newB_ok R next h1 h2 hnext32)) ?_)
      rintro e w9 ⟨rfl, hb9⟩
      have hf8 : sumR (newB R next).rs = 0 := rfl
      rw [hf8]
      have HB9 := hid (below_after HB8.out hb9 (Nat.le_refl _))
      have hs9 := (hb9.block _ (Array.getElem?_eq_some_iff.1 hs8).1).trans hs8
      clear hf8 hb9 hs8 HB8 H8 HG
      go_wp2_with (first
        | ((with_reducible refine at_build 50 ?_); refine wpList_buildF rfl 50 _ rfl #[] (by simp [Act.eval, Act.put]) _ build_noB ?_)
        | ((with_reducible refine at_slot 70 ?_); refine wpList_boxF rfl 50 (.tmp 69) rfl noCells rfl ?_; intro wa ha hba sa)
        | ((with_reducible refine at_slot 71 ?_); refine wpList_litF rfl 51 25 2 _ rfl #[(0, .pointer none), (1, .pointer (some ⟨w9.heap.size, 0, none⟩))] (by simp [Act.eval, Act.put]) _ (lit_twoB _) ?_; intro wb h_b hbb sb))
      have ha' := (hbb.block _ (Array.getElem?_eq_some_iff.1 ha).1).trans ha
      have HBb := hid (below_after (below_after HB9.out hba (Nat.le_refl _)) hbb (Nat.le_refl _))
      have hsb := (hbb.block _ (by have := (Array.getElem?_eq_some_iff.1 hs9).1; have := hba.size; omega)).trans ((hba.block _ (Array.getElem?_eq_some_iff.1 hs9).1).trans hs9)
      try simp only [sa] at h_b ⊢
      generalize w9.heap.size + 1 = tb at h_b ⊢
      generalize w9.heap.size = nb at ha' h_b ⊢
      clear ha hba hbb sa sb hs9 HB9
      go_loopw [73] (fun i wr => ∃ j : Nat, j ≤ 2 ∧ i = .int .i64 j ∧ wr.heap[w.heap.size]? = some (.cells sc 34 (0, 0)) ∧ wr.heap[nb]? = some (.cells noCells 50 (0, 0)) ∧ wr.heap[tb]? = some (.cells #[.pointer none, .pointer (some ⟨nb, 0, none⟩)] 25 (0, 0)) ∧ Below w.heap.size w wr) (fun i _ => 2 - (intOf i).toNat)
      case atStart => exact ⟨0, by omega, rfl, hsb, ha', h_b, HBb.out⟩
      case round =>
        obtain ⟨j, hj, rfl, hs, hn, ht, hb⟩ := hrel
        clear hsb ha' h_b HBb
        by_cases hlt : j < 2
        · obtain ⟨v, hv, hc⟩ : ∃ v : Option Addr, NoF wr (.pointer v) ∧ wr.cell? ⟨tb, j, none⟩ = some (.pointer v) := by
            obtain rfl | rfl : j = 0 ∨ j = 1 := by omega
            · exact ⟨_, .inl rfl, cellRow ht 0⟩
            · exact ⟨_, .inr ⟨nb, rfl, hn⟩, cellRow ht 1⟩
          have HS := hid hs
          have HN' := hid hn
          have HT := hid ht
          have HB := hid hb
          have tl : (j : Int) < 2 := by omega
          have HLT := hid hlt
          have HNO := hid (fun (W : World) (h : Below wr.heap.size wr W) => hv.below h)
          have HC1 := hid (show ∀ W : World, Below wr.heap.size wr W → W.cell? ⟨w.heap.size, 1, none⟩ = some (.int .i64 N) ∧ W.cell? ⟨w.heap.size, 3, none⟩ = some (.slice A p.length c) from fun W h => ⟨(cellRow ((h.block _ (Array.getElem?_eq_some_iff.1 HS.out).1).trans HS.out) 1).trans HX1.out.1, (cellRow ((h.block _ (Array.getElem?_eq_some_iff.1 HS.out).1).trans HS.out) 3).trans HX1.out.2⟩)
          clear hs hn ht hb hlt hj hv
          go_upto_region 10 with fail
          refine wp_region_later wr.heap.size (Nat.le_refl _) (by kernel_rfl) (by kernel_rfl) ?_
          have q1 := fun x : Later wr.heap.size wr => (HC1.out _ x.ok).1
          have q3 := fun x : Later wr.heap.size wr => (HC1.out _ x.ok).2
          repeat (first
            | go_big_quiet_step (first
              | (go_at_call 12; with_reducible exact quiet_same _ (insF_any _ _ _ _ (HNO.out _ (Later.ok _))))
              | (go_at_call 11; with_reducible exact quiet_same _ (readF_any _ _ _ (HNO.out _ (Later.ok _))))
              | (go_at_call 18; with_reducible exact quiet_same _ (winF_any _ _ (HNO.out _ (Later.ok _))))
              | (go_at_call 14; with_reducible exact quiet_same _ (lenF_any _ _ (HNO.out _ (Later.ok _))))
              | (go_at_call 20; with_reducible exact quiet_same _ (outF_any _ _ (HNO.out _ (Later.ok _))))
              | (go_at_call 23; with_reducible exact quiet_later _ (Nat.le_refl _) (blocksF_any _ _ _ (HNO.out _ (Later.ok _))))
              | (go_at_call 13; with_reducible exact quiet_same _ (nextF_any _ _ (HNO.out _ (Later.ok _))))))
          refine wpQuiet_nil ?_
          rintro _ ⟨lx, rfl⟩
          have hbl := hid lx.ok
          clear q1 q3 HC1 HNO hc
          generalize lx.wd = wz at hbl ⊢
          go_wp2_with fail
          go_roundw
          case rel => exact ⟨j + 1, by have := HLT.out; omega, by have := HLT.out; go_num, (hbl.out.block _ (Array.getElem?_eq_some_iff.1 HS.out).1).trans HS.out, (hbl.out.block _ (Array.getElem?_eq_some_iff.1 HN'.out).1).trans HN'.out, (hbl.out.block _ (Array.getElem?_eq_some_iff.1 HT.out).1).trans HT.out, below_after HB.out hbl.out (Nat.le_refl _)⟩
          case measure => have := HLT.out; simp [intOf]; omega
        · obtain rfl : j = 2 := by omega
          go_wp2_with fail
          (with_reducible refine Calls.mono (alive26_any _) ?_)
          rintro e w5' ⟨rfl, hb5'⟩
          go_wp2_with fail
          go_ret
          exact ⟨rfl, below_after hb hb5' (Nat.le_refl _)⟩
  · have hv1 : room < 1 ∨ 8192 < room := by omega
    have hv2 : mm < 1 ∨ 8192 < mm := by omega
    clear hmm hv hroom
    go_enter Try.func5, Try.ntmps5
    go_wp2_with fail
    (with_reducible refine Calls.mono (newbufno_any room next _ hv1) ?_)
    rintro e w2 ⟨rfl, rfl⟩
    go_wp2_with fail
    (with_reducible refine Calls.mono (rnewno_any mm next _ hv2) ?_)
    rintro e w3 ⟨rc, rfl, rfl, hb3⟩
    have HB3 := hid (below_after hb1 hb3 (by simp))
    have hs3 := (hb3.block _ (by simp)).trans hs1
    clear hb3 hb1 hs1 hv1 hv2 m1 m2 m3
    go_wp2_with (first
      | ((with_reducible refine at_slot 9 ?_); refine wpList_allocF rfl 42 rfl _ HA.out ?_; intro w4 h4 hb4 s4)
      | ((with_reducible refine at_store 9 24 ?_); refine wpList_rowF rfl 42 (.tmp 9) (.tmp 24) rfl w3.heap.size 42 _ _ rfl rfl h4 (info_ref _ _ _ _ _ _ _) rfl (refC_one _ _ _ _ _ _ _ _ _ _ _ _ _) ?_; intro w5 h5 m5 s5; (have hb5 : Below w3.heap.size w3 w5 := m5.below hb4 (Nat.le_refl _) (by simp)); (have hs5 := (hb5.block _ (Array.getElem?_eq_some_iff.1 hs3).1).trans hs3); clear m5 s5 hb4 h4 s4)
      | ((with_reducible refine at_slot 37 ?_); refine wpList_rowG rfl 34 (.tmp 5) rfl w.heap.size rfl 34 sc _ hs5 Try.underlying34 rfl HI.out ?_)
      | ((with_reducible refine at_slot 38 ?_); refine wpList_litF rfl 24 34 1 _ rfl #[(0, .agg sc)] (by simp [Act.eval, Act.put]) sc HL.out ?_; intro w6 h6 hb6 s6))
    have HB6 := hid (below_after (below_after HB3.out hb5 (Nat.le_refl _)) hb6 (Nat.le_refl _))
    have hs6 := (hb6.block _ (Array.getElem?_eq_some_iff.1 hs5).1).trans hs5
    clear hb5 hb6 hs5 hs3 HB3
    obtain ⟨t, hfar⟩ := HROW.out _ _ h6 (HP.out.below HB6.out)
    (with_reducible refine Calls.mono hfar ?_)
    rintro e w7 ⟨rfl, hb7⟩
    have HB7 := hid (below_after HB6.out hb7 (Nat.le_refl _))
    have hs7 := (hb7.block _ (Array.getElem?_eq_some_iff.1 hs6).1).trans hs6
    clear hb7 hs6 h6 s6 HB6 hfar
    cases t
    rotate_left 1
    · go_wp2_with fail
      (with_reducible refine Calls.mono (alive26_any _) ?_)
      rintro e w8 ⟨rfl, hb8⟩
      go_wp2_with fail
      go_ret
      exact ⟨rfl, below_after HB7.out hb8 (Nat.le_refl _)⟩
    · go_upto_region 7 with fail
      have HB9 := HB7
      have hs9 := hs7
      clear HB7 hs7
      generalize w7 = w9 at HB9 hs9 ⊢
      go_wp2_with (first
        | ((with_reducible refine at_build 50 ?_); refine wpList_buildF rfl 50 _ rfl #[] (by simp [Act.eval, Act.put]) _ build_noB ?_)
        | ((with_reducible refine at_slot 70 ?_); refine wpList_boxF rfl 50 (.tmp 69) rfl noCells rfl ?_; intro wa ha hba sa)
        | ((with_reducible refine at_slot 71 ?_); refine wpList_litF rfl 51 25 2 _ rfl #[(0, .pointer none), (1, .pointer (some ⟨w9.heap.size, 0, none⟩))] (by simp [Act.eval, Act.put]) _ (lit_twoB _) ?_; intro wb h_b hbb sb))
      have ha' := (hbb.block _ (Array.getElem?_eq_some_iff.1 ha).1).trans ha
      have HBb := hid (below_after (below_after HB9.out hba (Nat.le_refl _)) hbb (Nat.le_refl _))
      have hsb := (hbb.block _ (by have := (Array.getElem?_eq_some_iff.1 hs9).1; have := hba.size; omega)).trans ((hba.block _ (Array.getElem?_eq_some_iff.1 hs9).1).trans hs9)
      try simp only [sa] at h_b ⊢
      generalize w9.heap.size + 1 = tb at h_b ⊢
      generalize w9.heap.size = nb at ha' h_b ⊢
      clear ha hba hbb sa sb hs9 HB9
      go_loopw [73] (fun i wr => ∃ j : Nat, j ≤ 2 ∧ i = .int .i64 j ∧ wr.heap[w.heap.size]? = some (.cells sc 34 (0, 0)) ∧ wr.heap[nb]? = some (.cells noCells 50 (0, 0)) ∧ wr.heap[tb]? = some (.cells #[.pointer none, .pointer (some ⟨nb, 0, none⟩)] 25 (0, 0)) ∧ Below w.heap.size w wr) (fun i _ => 2 - (intOf i).toNat)
      case atStart => exact ⟨0, by omega, rfl, hsb, ha', h_b, HBb.out⟩
      case round =>
        obtain ⟨j, hj, rfl, hs, hn, ht, hb⟩ := hrel
        clear hsb ha' h_b HBb
        by_cases hlt : j < 2
        · obtain ⟨v, hv, hc⟩ : ∃ v : Option Addr, NoF wr (.pointer v) ∧ wr.cell? ⟨tb, j, none⟩ = some (.pointer v) := by
            obtain rfl | rfl : j = 0 ∨ j = 1 := by omega
            · exact ⟨_, .inl rfl, cellRow ht 0⟩
            · exact ⟨_, .inr ⟨nb, rfl, hn⟩, cellRow ht 1⟩
          have HS := hid hs
          have HN' := hid hn
          have HT := hid ht
          have HB := hid hb
          have tl : (j : Int) < 2 := by omega
          have HLT := hid hlt
          have HNO := hid (fun (W : World) (h : Below wr.heap.size wr W) => hv.below h)
          have HC1 := hid (show ∀ W : World, Below wr.heap.size wr W → W.cell? ⟨w.heap.size, 1, none⟩ = some (.int .i64 N) ∧ W.cell? ⟨w.heap.size, 3, none⟩ = some (.slice A p.length c) from fun W h => ⟨(cellRow ((h.block _ (Array.getElem?_eq_some_iff.1 HS.out).1).trans HS.out) 1).trans HX1.out.1, (cellRow ((h.block _ (Array.getElem?_eq_some_iff.1 HS.out).1).trans HS.out) 3).trans HX1.out.2⟩)
          clear hs hn ht hb hlt hj hv
          go_upto_region 10 with fail
          refine wp_region_later wr.heap.size (Nat.le_refl _) (by kernel_rfl) (by kernel_rfl) ?_
          have q1 := fun x : Later wr.heap.size wr => (HC1.out _ x.ok).1
          have q3 := fun x : Later wr.heap.size wr => (HC1.out _ x.ok).2
          repeat (first
            | go_big_quiet_step (first
              | (go_at_call 12; with_reducible exact quiet_same _ (insF_any _ _ _ _ (HNO.out _ (Later.ok _))))
              | (go_at_call 11; with_reducible exact quiet_same _ (readF_any _ _ _ (HNO.out _ (Later.ok _))))
              | (go_at_call 18; with_reducible exact quiet_same _ (winF_any _ _ (HNO.out _ (Later.ok _))))
              | (go_at_call 14; with_reducible exact quiet_same _ (lenF_any _ _ (HNO.out _ (Later.ok _))))
              | (go_at_call 20; with_reducible exact quiet_same _ (outF_any _ _ (HNO.out _ (Later.ok _))))
              | (go_at_call 23; with_reducible exact quiet_later _ (Nat.le_refl _) (blocksF_any _ _ _ (HNO.out _ (Later.ok _))))
              | (go_at_call 13; with_reducible exact quiet_same _ (nextF_any _ _ (HNO.out _ (Later.ok _))))))
          refine wpQuiet_nil ?_
          rintro _ ⟨lx, rfl⟩
          have hbl := hid lx.ok
          clear q1 q3 HC1 HNO hc
          generalize lx.wd = wz at hbl ⊢
          go_wp2_with fail
          go_roundw
          case rel => exact ⟨j + 1, by have := HLT.out; omega, by have := HLT.out; go_num, (hbl.out.block _ (Array.getElem?_eq_some_iff.1 HS.out).1).trans HS.out, (hbl.out.block _ (Array.getElem?_eq_some_iff.1 HN'.out).1).trans HN'.out, (hbl.out.block _ (Array.getElem?_eq_some_iff.1 HT.out).1).trans HT.out, below_after HB.out hbl.out (Nat.le_refl _)⟩
          case measure => have := HLT.out; simp [intOf]; omega
        · obtain rfl : j = 2 := by omega
          go_wp2_with fail
          (with_reducible refine Calls.mono (alive26_any _) ?_)
          rintro e w5' ⟨rfl, hb5'⟩
          go_wp2_with fail
          go_ret
          exact ⟨rfl, below_after hb hb5' (Nat.le_refl _)⟩
end Go.Proofs.Ytblkfpipmdfmkaa
