/- Walk: whether two segments are the same, by the document. -/
import Derived.Test.YthnidgiogjehkaaSam12
import Derived.Test.YthnidgiogjehkaaEqual
namespace Go.Proofs.Ythnidgiogjehkaa
set_option linter.unusedVariables false
set_option linter.unusedSimpArgs false
set_option maxRecDepth 20000
open Go.RowKit

def sameS (a b : SegM) : Bool := (a.src == b.src) && (a.dst == b.dst) && (a.seq == b.seq) && (a.ack == b.ack) && (a.flags == b.flags) && (a.win == b.win) && (a.urg == b.urg) && sameO a.o b.o && (a.data == b.data)
theorem info_optsX (o : OptM) (h : o.mac.length = 12) : (Try.prog.info? 31).map (·.size) = some o.cells.size := by rw [o.size h]; kernel_rfl
theorem seg_optsX {w : World} {b : Nat} {s : SegM} {T : TypeId} {fz : Nat × Nat} (h : w.heap[b]? = some (.cells s.cells T fz)) : ∀ (j : Nat) u, s.o.cells[j]? = some u → w.cell? ((⟨b, 7, none⟩ : Addr).add j) = some u :=
  cells_part h fun j u hu => by rw [s.opt_at j (Array.getElem?_eq_some_iff.1 hu).1]; exact hu
set_option maxRecDepth 20000 in
set_option maxHeartbeats 4000000 in
theorem same13_any (a b : SegM) (w : World) (ha : SegOk w a) (hb : SegOk w b) :
    Calls Try.prog 18 #[.agg a.cells, .agg b.cells] w fun e w' => e = .returned (.bool (sameS a b)) ∧ Below w.heap.size w w' := by
  have C1 := hid fun (W : World) (g : Nat) (h : W.heap[g]? = some (.cells a.cells 34 (0, 0))) => seg_cells h ha.o.mac
  have C2 := hid fun (W : World) (g : Nat) (h : W.heap[g]? = some (.cells b.cells 34 (0, 0))) => seg_cells h hb.o.mac
  have O1 := hid fun (W : World) (g : Nat) (h : W.heap[g]? = some (.cells a.cells 34 (0, 0))) => seg_optsX h
  have O2 := hid fun (W : World) (g : Nat) (h : W.heap[g]? = some (.cells b.cells 34 (0, 0))) => seg_optsX h
  have HI1 := hid (info_optsX a.o ha.o.mac)
  have HI2 := hid (info_optsX b.o hb.o.mac)
  have HSO := hid fun W (h : Below w.heap.size w W) => same12_any a.o b.o W (ha.o.below h) (hb.o.below h)
  have HD1 := hid fun W (h : Below w.heap.size w W) => ha.data.below h
  have HD2 := hid fun W (h : Below w.heap.size w W) => hb.data.below h
  generalize hca : a.cells = cs at C1 O1 ⊢
  generalize hcb : b.cells = ds at C2 O2 ⊢
  generalize hco : a.o.cells = co at O1 HI1 HSO
  generalize hdo : b.o.cells = do_ at O2 HI2 HSO
  clear hca hcb hco hdo ha hb
  obtain ⟨t0, ht0⟩ : ∃ t, (a.src == b.src) = t := ⟨_, rfl⟩
  have HT0 := hid (show ((a.src : Int) == (b.src : Int)) = t0 by rw [← ht0]; exact int_beq _ _)
  obtain ⟨t1, ht1⟩ : ∃ t, (a.dst == b.dst) = t := ⟨_, rfl⟩
  have HT1 := hid (show ((a.dst : Int) == (b.dst : Int)) = t1 by rw [← ht1]; exact int_beq _ _)
  obtain ⟨t2, ht2⟩ : ∃ t, (a.seq == b.seq) = t := ⟨_, rfl⟩
  have HT2 := hid (show ((a.seq : Int) == (b.seq : Int)) = t2 by rw [← ht2]; exact int_beq _ _)
  obtain ⟨t3, ht3⟩ : ∃ t, (a.ack == b.ack) = t := ⟨_, rfl⟩
  have HT3 := hid (show ((a.ack : Int) == (b.ack : Int)) = t3 by rw [← ht3]; exact int_beq _ _)
  obtain ⟨t4, ht4⟩ : ∃ t, (a.flags == b.flags) = t := ⟨_, rfl⟩
  have HT4 := hid (show ((a.flags : Int) == (b.flags : Int)) = t4 by rw [← ht4]; exact int_beq _ _)
  obtain ⟨t5, ht5⟩ : ∃ t, (a.win == b.win) = t := ⟨_, rfl⟩
  have HT5 := hid (show ((a.win : Int) == (b.win : Int)) = t5 by rw [← ht5]; exact int_beq _ _)
  obtain ⟨t6, ht6⟩ : ∃ t, (a.urg == b.urg) = t := ⟨_, rfl⟩
  have HT6 := hid (show ((a.urg : Int) == (b.urg : Int)) = t6 by rw [← ht6]; exact int_beq _ _)
  obtain ⟨t7, ht7⟩ : ∃ t, sameO a.o b.o = t := ⟨_, rfl⟩
  rw [ht7] at HSO
  have HT8 := hid (show ((strOf a.data).toList == (strOf b.data).toList) = (a.data == b.data) by rw [toList_strOf, toList_strOf])
  obtain ⟨r, hr⟩ : ∃ r, sameS a b = r := ⟨_, rfl⟩
  rw [hr]
  have HR := hid (show r = (t0 && t1 && t2 && t3 && t4 && t5 && t6 && t7 && (a.data == b.data)) by rw [← hr, ← ht0, ← ht1, ← ht2, ← ht3, ← ht4, ← ht5, ← ht6, ← ht7]; rfl)
  clear hr ht0 ht1 ht2 ht3 ht4 ht5 ht6 ht7
  obtain ⟨g1, hg1⟩ : ∃ g, w.heap.size = g := ⟨_, rfl⟩
  rw [hg1] at HSO HD1 HD2
  have HGG := hid hg1
  clear hg1
  go_enter Try.func18, Try.ntmps18
  go_upto_region 1 with (first
    | ((with_reducible refine at_slot 2 ?_); refine wpList_boxF rfl 34 (.tmp 0) rfl cs rfl ?_; intro w1 hx1 hb1 hz1; rw [HGG.out] at hx1 hb1 hz1 ⊢)
    | ((with_reducible refine at_slot 3 ?_); refine wpList_boxF rfl 34 (.tmp 1) rfl ds rfl ?_; intro w2 hx2 hb2 hz2; rw [hz1] at hx2 hb2 hz2 ⊢; have hy1 := (hb2.block _ (by omega)).trans hx1; have HX1 := hid hy1; have HX2 := hid hx2; have HB1 := hid (hb1.trans (hb2.mono (by omega))); clear hx1 hb1 hz1 hx2 hb2 hz2 hy1))
  obtain ⟨g2, hg2⟩ : ∃ g, g1 + 1 = g := ⟨_, rfl⟩
  rw [hg2] at HX2 ⊢
  clear hg2
  obtain ⟨e0, e1, e2, e3, e4, e5, e6, e7⟩ := C1.out _ _ HX1.out
  obtain ⟨f0, f1, f2, f3, f4, f5, f6, f7⟩ := C2.out _ _ HX2.out
  refine wp_region_lit ?_
  refine wpList_pureG (v := .pointer (some ⟨g1, 0, none⟩)) (by kernel_rfl) (by kernel_rfl) ?_
  simp only [Act.put, List.setIfInBounds_toArray, List.set_cons_zero, List.set_cons_succ]
  refine wpList_pureG (by kernel_rfl) (exec_ld1 (.tmp 5) rfl ⟨g1, 0, none⟩ _ (by kernel_rfl) e0 (by intro w; kernel_rfl)) ?_
  simp only [Act.put, List.setIfInBounds_toArray, List.set_cons_zero, List.set_cons_succ]
  refine wpList_pureG (v := .pointer (some ⟨g2, 0, none⟩)) (by kernel_rfl) (by kernel_rfl) ?_
  simp only [Act.put, List.setIfInBounds_toArray, List.set_cons_zero, List.set_cons_succ]
  refine wpList_pureG (by kernel_rfl) (exec_ld1 (.tmp 7) rfl ⟨g2, 0, none⟩ _ (by kernel_rfl) f0 (by intro w; kernel_rfl)) ?_
  simp only [Act.put, List.setIfInBounds_toArray, List.set_cons_zero, List.set_cons_succ]
  refine wpList_pureG (by kernel_rfl) (exec_eqlI (.tmp 6) (.tmp 8) rfl .u16 (a.src : Int) (b.src : Int) t0 HT0.out (by kernel_rfl) (by kernel_rfl)) ?_
  simp only [Act.put, List.setIfInBounds_toArray, List.set_cons_zero, List.set_cons_succ]
  cases t0
  · refine wpList_tail 4 (.bool false) [] (by kernel_rfl) ?_
    intro a' h4 hd
    go_wp2_with fail
    refine bodyPost_ret (results_tmp rfl a'.tmps _ w2) hd ?_
    rw [h4]
    exact ⟨by rw [HR.out]; simp, by rw [HGG.out]; exact HB1.out⟩
  refine wpList_pureG (v := .bool true) (by kernel_rfl) (by kernel_rfl) ?_
  simp only [Act.put, List.setIfInBounds_toArray, List.set_cons_zero, List.set_cons_succ]
  refine wpList_pureG (v := .pointer (some ⟨g1, 1, none⟩)) (by kernel_rfl) (by kernel_rfl) ?_
  simp only [Act.put, List.setIfInBounds_toArray, List.set_cons_zero, List.set_cons_succ]
  refine wpList_pureG (by kernel_rfl) (exec_ld1 (.tmp 11) rfl ⟨g1, 1, none⟩ _ (by kernel_rfl) e1 (by intro w; kernel_rfl)) ?_
  simp only [Act.put, List.setIfInBounds_toArray, List.set_cons_zero, List.set_cons_succ]
  refine wpList_pureG (v := .pointer (some ⟨g2, 1, none⟩)) (by kernel_rfl) (by kernel_rfl) ?_
  simp only [Act.put, List.setIfInBounds_toArray, List.set_cons_zero, List.set_cons_succ]
  refine wpList_pureG (by kernel_rfl) (exec_ld1 (.tmp 13) rfl ⟨g2, 1, none⟩ _ (by kernel_rfl) f1 (by intro w; kernel_rfl)) ?_
  simp only [Act.put, List.setIfInBounds_toArray, List.set_cons_zero, List.set_cons_succ]
  refine wpList_pureG (by kernel_rfl) (exec_eqlI (.tmp 12) (.tmp 14) rfl .u16 (a.dst : Int) (b.dst : Int) t1 HT1.out (by kernel_rfl) (by kernel_rfl)) ?_
  simp only [Act.put, List.setIfInBounds_toArray, List.set_cons_zero, List.set_cons_succ]
  cases t1
  · refine wpList_tail 4 (.bool false) [] (by kernel_rfl) ?_
    intro a' h4 hd
    go_wp2_with fail
    refine bodyPost_ret (results_tmp rfl a'.tmps _ w2) hd ?_
    rw [h4]
    exact ⟨by rw [HR.out]; simp, by rw [HGG.out]; exact HB1.out⟩
  refine wpList_pureG (v := .bool true) (by kernel_rfl) (by kernel_rfl) ?_
  simp only [Act.put, List.setIfInBounds_toArray, List.set_cons_zero, List.set_cons_succ]
  refine wpList_pureG (v := .bool true) (by kernel_rfl) (by kernel_rfl) ?_
  simp only [Act.put, List.setIfInBounds_toArray, List.set_cons_zero, List.set_cons_succ]
  refine wpList_pureG (v := .pointer (some ⟨g1, 2, none⟩)) (by kernel_rfl) (by kernel_rfl) ?_
  simp only [Act.put, List.setIfInBounds_toArray, List.set_cons_zero, List.set_cons_succ]
  refine wpList_pureG (by kernel_rfl) (exec_ld1 (.tmp 18) rfl ⟨g1, 2, none⟩ _ (by kernel_rfl) e2 (by intro w; kernel_rfl)) ?_
  simp only [Act.put, List.setIfInBounds_toArray, List.set_cons_zero, List.set_cons_succ]
  refine wpList_pureG (v := .pointer (some ⟨g2, 2, none⟩)) (by kernel_rfl) (by kernel_rfl) ?_
  simp only [Act.put, List.setIfInBounds_toArray, List.set_cons_zero, List.set_cons_succ]
  refine wpList_pureG (by kernel_rfl) (exec_ld1 (.tmp 20) rfl ⟨g2, 2, none⟩ _ (by kernel_rfl) f2 (by intro w; kernel_rfl)) ?_
  simp only [Act.put, List.setIfInBounds_toArray, List.set_cons_zero, List.set_cons_succ]
  refine wpList_pureG (by kernel_rfl) (exec_eqlI (.tmp 19) (.tmp 21) rfl .u32 (a.seq : Int) (b.seq : Int) t2 HT2.out (by kernel_rfl) (by kernel_rfl)) ?_
  simp only [Act.put, List.setIfInBounds_toArray, List.set_cons_zero, List.set_cons_succ]
  cases t2
  · refine wpList_tail 4 (.bool false) [] (by kernel_rfl) ?_
    intro a' h4 hd
    go_wp2_with fail
    refine bodyPost_ret (results_tmp rfl a'.tmps _ w2) hd ?_
    rw [h4]
    exact ⟨by rw [HR.out]; simp, by rw [HGG.out]; exact HB1.out⟩
  refine wpList_pureG (v := .bool true) (by kernel_rfl) (by kernel_rfl) ?_
  simp only [Act.put, List.setIfInBounds_toArray, List.set_cons_zero, List.set_cons_succ]
  refine wpList_pureG (v := .bool true) (by kernel_rfl) (by kernel_rfl) ?_
  simp only [Act.put, List.setIfInBounds_toArray, List.set_cons_zero, List.set_cons_succ]
  refine wpList_pureG (v := .pointer (some ⟨g1, 3, none⟩)) (by kernel_rfl) (by kernel_rfl) ?_
  simp only [Act.put, List.setIfInBounds_toArray, List.set_cons_zero, List.set_cons_succ]
  refine wpList_pureG (by kernel_rfl) (exec_ld1 (.tmp 25) rfl ⟨g1, 3, none⟩ _ (by kernel_rfl) e3 (by intro w; kernel_rfl)) ?_
  simp only [Act.put, List.setIfInBounds_toArray, List.set_cons_zero, List.set_cons_succ]
  refine wpList_pureG (v := .pointer (some ⟨g2, 3, none⟩)) (by kernel_rfl) (by kernel_rfl) ?_
  simp only [Act.put, List.setIfInBounds_toArray, List.set_cons_zero, List.set_cons_succ]
  refine wpList_pureG (by kernel_rfl) (exec_ld1 (.tmp 27) rfl ⟨g2, 3, none⟩ _ (by kernel_rfl) f3 (by intro w; kernel_rfl)) ?_
  simp only [Act.put, List.setIfInBounds_toArray, List.set_cons_zero, List.set_cons_succ]
  refine wpList_pureG (by kernel_rfl) (exec_eqlI (.tmp 26) (.tmp 28) rfl .u32 (a.ack : Int) (b.ack : Int) t3 HT3.out (by kernel_rfl) (by kernel_rfl)) ?_
  simp only [Act.put, List.setIfInBounds_toArray, List.set_cons_zero, List.set_cons_succ]
  cases t3
  · refine wpList_tail 4 (.bool false) [] (by kernel_rfl) ?_
    intro a' h4 hd
    go_wp2_with fail
    refine bodyPost_ret (results_tmp rfl a'.tmps _ w2) hd ?_
    rw [h4]
    exact ⟨by rw [HR.out]; simp, by rw [HGG.out]; exact HB1.out⟩
  refine wpList_pureG (v := .bool true) (by kernel_rfl) (by kernel_rfl) ?_
  simp only [Act.put, List.setIfInBounds_toArray, List.set_cons_zero, List.set_cons_succ]
  refine wpList_pureG (v := .bool true) (by kernel_rfl) (by kernel_rfl) ?_
  simp only [Act.put, List.setIfInBounds_toArray, List.set_cons_zero, List.set_cons_succ]
  refine wpList_pureG (v := .pointer (some ⟨g1, 4, none⟩)) (by kernel_rfl) (by kernel_rfl) ?_
  simp only [Act.put, List.setIfInBounds_toArray, List.set_cons_zero, List.set_cons_succ]
  refine wpList_pureG (by kernel_rfl) (exec_ld1 (.tmp 32) rfl ⟨g1, 4, none⟩ _ (by kernel_rfl) e4 (by intro w; kernel_rfl)) ?_
  simp only [Act.put, List.setIfInBounds_toArray, List.set_cons_zero, List.set_cons_succ]
  refine wpList_pureG (v := .pointer (some ⟨g2, 4, none⟩)) (by kernel_rfl) (by kernel_rfl) ?_
  simp only [Act.put, List.setIfInBounds_toArray, List.set_cons_zero, List.set_cons_succ]
  refine wpList_pureG (by kernel_rfl) (exec_ld1 (.tmp 34) rfl ⟨g2, 4, none⟩ _ (by kernel_rfl) f4 (by intro w; kernel_rfl)) ?_
  simp only [Act.put, List.setIfInBounds_toArray, List.set_cons_zero, List.set_cons_succ]
  refine wpList_pureG (by kernel_rfl) (exec_eqlI (.tmp 33) (.tmp 35) rfl .u8 (a.flags : Int) (b.flags : Int) t4 HT4.out (by kernel_rfl) (by kernel_rfl)) ?_
  simp only [Act.put, List.setIfInBounds_toArray, List.set_cons_zero, List.set_cons_succ]
  cases t4
  · refine wpList_tail 4 (.bool false) [] (by kernel_rfl) ?_
    intro a' h4 hd
    go_wp2_with fail
    refine bodyPost_ret (results_tmp rfl a'.tmps _ w2) hd ?_
    rw [h4]
    exact ⟨by rw [HR.out]; simp, by rw [HGG.out]; exact HB1.out⟩
  refine wpList_pureG (v := .bool true) (by kernel_rfl) (by kernel_rfl) ?_
  simp only [Act.put, List.setIfInBounds_toArray, List.set_cons_zero, List.set_cons_succ]
  refine wpList_pureG (v := .bool true) (by kernel_rfl) (by kernel_rfl) ?_
  simp only [Act.put, List.setIfInBounds_toArray, List.set_cons_zero, List.set_cons_succ]
  refine wpList_pureG (v := .pointer (some ⟨g1, 5, none⟩)) (by kernel_rfl) (by kernel_rfl) ?_
  simp only [Act.put, List.setIfInBounds_toArray, List.set_cons_zero, List.set_cons_succ]
  refine wpList_pureG (by kernel_rfl) (exec_ld1 (.tmp 39) rfl ⟨g1, 5, none⟩ _ (by kernel_rfl) e5 (by intro w; kernel_rfl)) ?_
  simp only [Act.put, List.setIfInBounds_toArray, List.set_cons_zero, List.set_cons_succ]
  refine wpList_pureG (v := .pointer (some ⟨g2, 5, none⟩)) (by kernel_rfl) (by kernel_rfl) ?_
  simp only [Act.put, List.setIfInBounds_toArray, List.set_cons_zero, List.set_cons_succ]
  refine wpList_pureG (by kernel_rfl) (exec_ld1 (.tmp 41) rfl ⟨g2, 5, none⟩ _ (by kernel_rfl) f5 (by intro w; kernel_rfl)) ?_
  simp only [Act.put, List.setIfInBounds_toArray, List.set_cons_zero, List.set_cons_succ]
  refine wpList_pureG (by kernel_rfl) (exec_eqlI (.tmp 40) (.tmp 42) rfl .u16 (a.win : Int) (b.win : Int) t5 HT5.out (by kernel_rfl) (by kernel_rfl)) ?_
  simp only [Act.put, List.setIfInBounds_toArray, List.set_cons_zero, List.set_cons_succ]
  cases t5
  · refine wpList_tail 4 (.bool false) [] (by kernel_rfl) ?_
    intro a' h4 hd
    go_wp2_with fail
    refine bodyPost_ret (results_tmp rfl a'.tmps _ w2) hd ?_
    rw [h4]
    exact ⟨by rw [HR.out]; simp, by rw [HGG.out]; exact HB1.out⟩
  refine wpList_pureG (v := .bool true) (by kernel_rfl) (by kernel_rfl) ?_
  simp only [Act.put, List.setIfInBounds_toArray, List.set_cons_zero, List.set_cons_succ]
  refine wpList_pureG (v := .bool true) (by kernel_rfl) (by kernel_rfl) ?_
  simp only [Act.put, List.setIfInBounds_toArray, List.set_cons_zero, List.set_cons_succ]
  refine wpList_pureG (v := .pointer (some ⟨g1, 6, none⟩)) (by kernel_rfl) (by kernel_rfl) ?_
  simp only [Act.put, List.setIfInBounds_toArray, List.set_cons_zero, List.set_cons_succ]
  refine wpList_pureG (by kernel_rfl) (exec_ld1 (.tmp 46) rfl ⟨g1, 6, none⟩ _ (by kernel_rfl) e6 (by intro w; kernel_rfl)) ?_
  simp only [Act.put, List.setIfInBounds_toArray, List.set_cons_zero, List.set_cons_succ]
  refine wpList_pureG (v := .pointer (some ⟨g2, 6, none⟩)) (by kernel_rfl) (by kernel_rfl) ?_
  simp only [Act.put, List.setIfInBounds_toArray, List.set_cons_zero, List.set_cons_succ]
  refine wpList_pureG (by kernel_rfl) (exec_ld1 (.tmp 48) rfl ⟨g2, 6, none⟩ _ (by kernel_rfl) f6 (by intro w; kernel_rfl)) ?_
  simp only [Act.put, List.setIfInBounds_toArray, List.set_cons_zero, List.set_cons_succ]
  refine wpList_pureG (by kernel_rfl) (exec_eqlI (.tmp 47) (.tmp 49) rfl .u16 (a.urg : Int) (b.urg : Int) t6 HT6.out (by kernel_rfl) (by kernel_rfl)) ?_
  simp only [Act.put, List.setIfInBounds_toArray, List.set_cons_zero, List.set_cons_succ]
  cases t6
  · refine wpList_tail 4 (.bool false) [] (by kernel_rfl) ?_
    intro a' h4 hd
    go_wp2_with fail
    refine bodyPost_ret (results_tmp rfl a'.tmps _ w2) hd ?_
    rw [h4]
    exact ⟨by rw [HR.out]; simp, by rw [HGG.out]; exact HB1.out⟩
  refine wpList_pureG (v := .bool true) (by kernel_rfl) (by kernel_rfl) ?_
  simp only [Act.put, List.setIfInBounds_toArray, List.set_cons_zero, List.set_cons_succ]
  clear e0 e1 e2 e3 e4 e5 e6 f0 f1 f2 f3 f4 f5 f6
  go_wp2_with (first
    | ((with_reducible refine at_slot 54 ?_); refine wpList_yieldG (by rfl) (exec_loadAt 31 (.tmp 53) rfl ⟨g1, 7, none⟩ rfl co _ (O1.out _ _ HX1.out) Try.underlying31 rfl HI1.out) ?_)
    | ((with_reducible refine at_slot 56 ?_); refine wpList_yieldG (by rfl) (exec_loadAt 31 (.tmp 55) rfl ⟨g2, 7, none⟩ rfl do_ _ (O2.out _ _ HX2.out) Try.underlying31 rfl HI2.out) ?_))
  (with_reducible refine Calls.mono (HSO.out _ HB1.out) ?_)
  rintro e w3 ⟨rfl, hb3⟩
  have e7' := keep_cell hb3 e7 (World.block_lt_of_cell? _ _ e7)
  have f7' := keep_cell hb3 f7 (World.block_lt_of_cell? _ _ f7)
  have HB3 := hid (HB1.out.trans (hb3.mono (by have := HB1.out.size; have := HGG.out; omega)))
  clear e7 f7 hb3
  have hc1 := conv_str (HD1.out _ HB3.out)
  have hc2 := conv_str (HD2.out _ HB3.out)
  cases t7
  · go_wp2_with fail
    go_ret
    exact ⟨by rw [HR.out]; simp, by rw [HGG.out]; exact HB3.out⟩
  · go_wp2_with fail
    go_ret
    exact ⟨by rw [HR.out]; simp [HT8.out], by rw [HGG.out]; exact HB3.out⟩
end Go.Proofs.Ythnidgiogjehkaa
