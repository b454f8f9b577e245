/- Walks: options without all but AO; Blocks cloned. Walks: options with as many Sacks as fit. Walks: the document's Fit; the law Turns of layer 12. -/
import Derived.Test.YthodepdgmcagjaaOptD
import Derived.Test.YthodepdgmcagjaaOptE
namespace Go.Proofs.Ythodepdgmcagjaa
set_option linter.unusedVariables false
set_option linter.unusedSimpArgs false
open Go.RowKit

def bareO (o : OptM) : OptM := if o.hasAO then { noOpt with hasAO := true, key := o.key, next := o.next } else noOpt
theorem bareO_ok {w : World} {o : OptM} (W : World) (ho : OptOk w o) : OptOk W (bareO o) := by
  unfold bareO
  split
  · exact ⟨(by decide : (0 : Nat) < 65536), (by decide : (0 : Nat) < 256), (by decide : (0 : Nat) < 4294967296), (by decide : (0 : Nat) < 4294967296), ho.key, ho.next, rfl, Row.nil W 2, fun b h => by cases h⟩
  · exact noOpt_plain.opt (Row.nil W 2)
theorem bareO_size (o : OptM) : (bareO o).cells.size = 24 := by
  unfold bareO
  split <;> exact OptM.size _ rfl
theorem build_ao (k n : Nat) : ∀ w, (Instr.build 27 #[(9, .bool true), (10, .int .u8 (k : Int)), (11, .int .u8 (n : Int))]).run Try.prog w = .ok (.agg ({ noOpt with hasAO := true, key := k, next := n } : OptM).cells) w := by intro w; kernel_rfl
theorem noOpt_size : noOpt.cells.size = 24 := OptM.size noOpt rfl
theorem opts24 : (Try.prog.info? 27).map (·.size) = some 24 := by kernel_rfl
set_option maxRecDepth 20000 in
theorem bare12_any (o : OptM) (w : World) (ho : OptOk w o) : Calls Try.prog 20 #[.agg o.cells] w fun e w' => e = .returned (.agg (bareO o).cells) ∧ Below w.heap.size w w' := by
  have HPC := hid (fun (W : World) (g : Nat) (h : W.heap[g]? = some (.cells o.cells 27 (0, 0))) => opt_cells h)
  have HBZ := hid (bareO_size o)
  have H1 := hid (OptM.one (bareO o))
  have HY := hid (fun h : o.hasAO = true => (show ({ noOpt with hasAO := true, key := o.key, next := o.next } : OptM) = bareO o by unfold bareO; rw [if_pos h]))
  have HNB := hid (fun h : o.hasAO = false => (show noOpt = bareO o by unfold bareO; rw [h]; rfl))
  have HBN := hid build_noOpt
  have HBA := hid (build_ao o.key o.next)
  have HN := hid alloc_noOpt
  have HNZ := hid noOpt_size
  generalize o.cells = co at HPC ⊢
  obtain ⟨B, hB⟩ : ∃ x, w.heap.size = x := ⟨_, rfl⟩
  rw [hB]
  have HB := hid hB
  clear hB ho
  obtain ⟨t, ht⟩ : ∃ t, o.hasAO = t := ⟨_, rfl⟩
  rw [ht] at HPC HY HNB
  clear ht
  go_enter Try.func20, Try.ntmps20
  go_upto_if 5 with (first
    | ((with_reducible refine at_slot 1 ?_); refine wpList_boxF rfl 27 (.tmp 0) rfl co rfl ?_; intro w1 hx1 hb1 hz1; rw [HB.out] at hx1 hb1 hz1 ⊢)
    | ((with_reducible refine at_slot 2 ?_); refine wpList_allocF rfl 27 rfl _ HN.out ?_; intro w2 hx2 hb2 hz2; rw [hz1] at hx2 hb2 ⊢; have hy1 := (hb2.block _ (by omega)).trans hx1; have X := hid hy1; have Y := hid hx2; have BB := hid (hb1.trans (hb2.mono (by omega))); obtain ⟨e0, e1, e2, e3, e4, e5, e6, e7, e8, e9, e10, e11⟩ := HPC.out w2 B hy1; clear hx1 hx2 hb1 hb2 hz1 hz2 hy1))
  have HIB := hid (show (Try.prog.info? 27).map (·.size) = some (bareO o).cells.size by rw [HBZ.out]; exact opts24)
  have HSB := hid (show noOpt.cells.size = (bareO o).cells.size by rw [HNZ.out, HBZ.out])
  cases t
  case false =>
    have hbn := HBN.out
    rw [HNB.out (by simp)] at hbn
    have HBN2 := hid hbn
    clear hbn HBN
    go_wp2_with (first
      | ((with_reducible refine at_build 27 ?_); refine wpList_buildF rfl 27 _ rfl #[] (by simp) _ HBN2.out ?_)
      | ((with_reducible refine at_store 2 6 ?_); refine wpList_rowF rfl 27 (.tmp 2) (.tmp 6) rfl (B + 1) 27 _ (bareO o).cells rfl rfl Y.out HIB.out HSB.out H1.out ?_; intro w6 h6 m6 z6))
    try simp only [Act.put, List.setIfInBounds_toArray, List.set_cons_zero, List.set_cons_succ]
    exact ret_cell1 (p := 2) rfl rfl h6 Try.underlying27 rfl HIB.out ⟨rfl, Mod.below BB.out m6 (Nat.le_of_eq HB.out.symm) (by simp)⟩
  have hba := HBA.out
  rw [HY.out (by simp)] at hba
  have HBA2 := hid hba
  clear hba HBA
  go_wp2_with (first
    | ((with_reducible refine at_build 27 ?_); refine wpList_buildF rfl 27 _ rfl #[(9, .bool true), (10, .int .u8 (o.key : Int)), (11, .int .u8 (o.next : Int))] (by simp [Act.eval, Act.put]) _ HBA2.out ?_)
    | ((with_reducible refine at_store 2 11 ?_); refine wpList_rowF rfl 27 (.tmp 2) (.tmp 11) rfl (B + 1) 27 _ (bareO o).cells rfl rfl Y.out HIB.out HSB.out H1.out ?_; intro w6 h6 m6 z6))
  try simp only [Act.put, List.setIfInBounds_toArray, List.set_cons_zero, List.set_cons_succ]
  exact ret_cell1 (p := 2) rfl rfl h6 Try.underlying27 rfl HIB.out ⟨rfl, Mod.below BB.out m6 (Nat.le_of_eq HB.out.symm) (by simp)⟩
set_option maxRecDepth 20000 in
theorem rbare12_any (o : OptM) (w : World) (ho : OptOk w o) : Calls Try.prog 21 #[.agg o.cells] w fun e w' => e = .returned (.agg (bareO o).cells) ∧ Below w.heap.size w w' := by
  have HPC := hid (fun (W : World) (g : Nat) (h : W.heap[g]? = some (.cells o.cells 27 (0, 0))) => opt_cells h)
  have HBZ := hid (bareO_size o)
  have H1 := hid (OptM.one (bareO o))
  have HY := hid (fun h : o.hasAO = true => (show ({ noOpt with hasAO := true, key := o.key, next := o.next } : OptM) = bareO o by unfold bareO; rw [if_pos h]))
  have HNB := hid (fun h : o.hasAO = false => (show noOpt = bareO o by unfold bareO; rw [h]; rfl))
  have HBN := hid build_noOpt
  have HBA := hid (build_ao o.key o.next)
  have HN := hid alloc_noOpt
  have HNZ := hid noOpt_size
  generalize o.cells = co at HPC ⊢
  obtain ⟨B, hB⟩ : ∃ x, w.heap.size = x := ⟨_, rfl⟩
  rw [hB]
  have HB := hid hB
  clear hB ho
  obtain ⟨t, ht⟩ : ∃ t, o.hasAO = t := ⟨_, rfl⟩
  rw [ht] at HPC HY HNB
  clear ht
  go_enter Try.func21, Try.ntmps21
  go_upto_if 5 with (first
    | ((with_reducible refine at_slot 1 ?_); refine wpList_boxF rfl 27 (.tmp 0) rfl co rfl ?_; intro w1 hx1 hb1 hz1; rw [HB.out] at hx1 hb1 hz1 ⊢)
    | ((with_reducible refine at_slot 2 ?_); refine wpList_allocF rfl 27 rfl _ HN.out ?_; intro w2 hx2 hb2 hz2; rw [hz1] at hx2 hb2 ⊢; have hy1 := (hb2.block _ (by omega)).trans hx1; have X := hid hy1; have Y := hid hx2; have BB := hid (hb1.trans (hb2.mono (by omega))); obtain ⟨e0, e1, e2, e3, e4, e5, e6, e7, e8, e9, e10, e11⟩ := HPC.out w2 B hy1; clear hx1 hx2 hb1 hb2 hz1 hz2 hy1))
  have HIB := hid (show (Try.prog.info? 27).map (·.size) = some (bareO o).cells.size by rw [HBZ.out]; exact opts24)
  have HSB := hid (show noOpt.cells.size = (bareO o).cells.size by rw [HNZ.out, HBZ.out])
  cases t
  case false =>
    have hbn := HBN.out
    rw [HNB.out (by simp)] at hbn
    have HBN2 := hid hbn
    clear hbn HBN
    go_wp2_with (first
      | ((with_reducible refine at_build 27 ?_); refine wpList_buildF rfl 27 _ rfl #[] (by simp) _ HBN2.out ?_)
      | ((with_reducible refine at_store 2 6 ?_); refine wpList_rowF rfl 27 (.tmp 2) (.tmp 6) rfl (B + 1) 27 _ (bareO o).cells rfl rfl Y.out HIB.out HSB.out H1.out ?_; intro w6 h6 m6 z6))
    try simp only [Act.put, List.setIfInBounds_toArray, List.set_cons_zero, List.set_cons_succ]
    exact ret_cell1 (p := 2) rfl rfl h6 Try.underlying27 rfl HIB.out ⟨rfl, Mod.below BB.out m6 (Nat.le_of_eq HB.out.symm) (by simp)⟩
  have hba := HBA.out
  rw [HY.out (by simp)] at hba
  have HBA2 := hid hba
  clear hba HBA
  go_wp2_with (first
    | ((with_reducible refine at_build 27 ?_); refine wpList_buildF rfl 27 _ rfl #[(9, .bool true), (10, .int .u8 (o.key : Int)), (11, .int .u8 (o.next : Int))] (by simp [Act.eval, Act.put]) _ HBA2.out ?_)
    | ((with_reducible refine at_store 2 11 ?_); refine wpList_rowF rfl 27 (.tmp 2) (.tmp 11) rfl (B + 1) 27 _ (bareO o).cells rfl rfl Y.out HIB.out HSB.out H1.out ?_; intro w6 h6 m6 z6))
  try simp only [Act.put, List.setIfInBounds_toArray, List.set_cons_zero, List.set_cons_succ]
  exact ret_cell1 (p := 2) rfl rfl h6 Try.underlying27 rfl HIB.out ⟨rfl, Mod.below BB.out m6 (Nat.le_of_eq HB.out.symm) (by simp)⟩
theorem bcs_takeO (ss : List (Nat × Nat)) (k : Nat) : (bcs ss).take (k * 2) = bcs (ss.take k) := by
  induction ss generalizing k with
  | nil => simp [bcs]
  | cons x xs ih =>
    cases k with
    | zero => simp [bcs]
    | succ k =>
      have e : bcs (x :: xs) = .int .u32 (x.1 : Int) :: .int .u32 (x.2 : Int) :: bcs xs := rfl
      rw [e, show (k + 1) * 2 = k * 2 + 1 + 1 by omega, List.take_succ_cons, List.take_succ_cons, ih]
      rfl
theorem OkB.take {ss : List (Nat × Nat)} (h : OkB ss) (k : Nat) : OkB (ss.take k) := fun b hb => h b (List.mem_of_mem_take hb)
theorem Row.takeB {w : World} {A : Option Addr} {n c : Nat} {ss : List (Nat × Nat)} (h : Row w 2 A n c (bcs ss)) (k : Nat) (hk : k ≤ n) : Row w 2 A k c (bcs (ss.take k)) := by
  have h1 := h.take hk
  rw [bcs_takeO] at h1
  exact h1
theorem slice_hO {P : Program} (t e : TypeId) (kh : IntKind) {i : TypeInfo} (ht : P.underlying t = some (.slice e)) (hi : P.info? e = some i) (size : Nat) (hsz : i.size = size) (A : Option Addr) (n c : Nat) (h : Int) (h0 : 0 ≤ h) (hm : h ≤ c) :
    ∀ W : World, (Instr.slice t (.slice A n c) none (some (.int kh h)) none).run P W = .ok (.slice (if c = 0 then A else A.map (·.add (0 * size))) (h.toNat - 0) (c - 0)) W := by
  intro W
  have hel : P.elem t = e := by simp [Program.elem, ht]
  have hu : P.underlying t = some (.slice (P.elem t)) := by rw [hel]; exact ht
  go_simp
  simp [sizeOf, typeInfo, hi, hsz, Result.andThen, Addr.add]
/-- The first k of a slice of Blocks. -/
theorem cut_blk (A : Option Addr) (n c k : Nat) (hk : k ≤ c) : ∀ W : World, (Instr.slice 23 (.slice A n c) none (some (.int .i64 (k : Int))) none).run Try.prog W = .ok (.slice A k c) W := by
  obtain ⟨ib, zb, hib, hzb, hb1, hb2, hb3⟩ := info_blkO
  intro W
  have := slice_hO (P := Try.prog) 23 43 .i64 Try.underlying23 hib 2 hb1 A n c (k : Int) (by omega) (by omega) W
  rw [this]
  have e1 : (if c = 0 then A else A.map (·.add (0 * 2))) = A := by
    split
    · rfl
    · cases A with
      | none => rfl
      | some a => simp [Addr.add]
  rw [e1]
  simp
set_option maxHeartbeats 1000000 in
theorem cloneB_any (A : Option Addr) (c : Nat) (ss : List (Nat × Nat)) (w : World) (h : Row w 2 A ss.length c (bcs ss)) (hl : ss.length ≤ 1000) :
    Calls Try.prog 34 #[.slice A ss.length c] w fun e w' => ∃ A' c', e = .returned (.slice A' ss.length c') ∧ Row w' 2 A' ss.length c' (bcs ss) ∧ (∀ ad, A' = some ad → w.heap.size ≤ ad.block) ∧ Below w.heap.size w w' := by
  obtain ⟨ib, zb, hib, hzb, hb1, hb2, hb3⟩ := info_blkO
  have HR := hid h
  rcases A with _ | a
  · have h0 : ss = [] := by
      rcases ss with _ | ⟨x, l⟩
      · rfl
      · obtain ⟨ad, e, _⟩ := h.at_ 0 _ rfl
        cases e
    subst h0
    clear h
    have hq : ∀ w, (binOp .eql 23 (.slice none 0 c) (.slice none 0 0)).run Try.prog w = .ok (.bool true) w := by intro w; kernel_rfl
    go_enter Try.func34, Try.ntmps34
    go_wp2_with fail
    go_ret
    exact ⟨none, 0, rfl, Row.nil _ 2, (fun ad h => by cases h), Below.refl _ _⟩
  · clear h
    have hlit : ∀ w, (Instr.buildSlice 23 0 #[]).run Try.prog w = .ok (.slice (some ⟨w.heap.size, 0, none⟩) 0 0) (w.alloc (.cells #[] 43)) := by intro w; kernel_rfl
    have HO := hid (show (w.alloc (.cells #[] 43)).ownsRow w.heap.size 43 2 (.slice (some ⟨w.heap.size, 0, none⟩) 0 0) 0 [] from World.ownsRow_made w #[] 0 (Nat.le_refl _) (by decide) rfl)
    have HR2 := hid (HR.out.below (bl1 w (.cells #[] 43)))
    have HL := hid hl
    have hq : ∀ w, (binOp .eql 23 (.slice (some a) ss.length c) (.slice none 0 0)).run Try.prog w = .ok (.bool false) w := by intro w; kernel_rfl
    have HZ := hid (show w.heap.size ≤ (w.alloc (.cells #[] 43)).heap.size by simp)
    clear hl
    go_enter Try.func34, Try.ntmps34
    go_wp2_with ((with_reducible refine at_slot 7 ?_); refine wpList_append_row _ rfl (.tmp 5) (.tmp 6) 23 rfl w.heap.size 43 ib zb 2 8 Try.underlying23 hib hzb hb1 hb2 hb3 (by decide) _ 0 [] rfl HO.out _ ss.length c (bcs ss) rfl HR2.out (one_bcsO _) (by have := HL.out; show 0 + ss.length ≤ 9223372036854775807; omega) (by have := HL.out; omega) HZ.out ?_; intro v3 w3 ho3 hg3 hk3; have H3 := hid ho3; have HB3 := hid (below_grown (bl1 w _) HO.out hg3 (Nat.le_refl _) (Nat.le_refl _)); clear ho3 hg3 hk3)
    go_ret
    have h3 := H3.out
    rw [Nat.zero_add, List.nil_append] at h3
    obtain ⟨A', c', rfl, hrow⟩ := Row.of_own h3
    exact ⟨A', c', rfl, hrow, (fun ad hA => own_ge h3 ad.block (by rw [hA]; rfl)), HB3.out⟩
end Go.Proofs.Ythodepdgmcagjaa
namespace Go.Proofs.Ythodepdgmcagjaa
set_option linter.unusedVariables false
set_option linter.unusedSimpArgs false
open Go.RowKit

/-- How many Sacks fit, of the first n. -/
def fitN (o : OptM) : Nat → Nat
  | 0 => 0
  | n + 1 => if sizeO { o with sacks := o.sacks.take (n + 1) } ≤ 40 then n + 1 else fitN o n
def fitK (o : OptM) : Nat := fitN o (min o.sacks.length 4)
theorem fitN_le (o : OptM) : ∀ n, fitN o n ≤ n
  | 0 => Nat.le_refl _
  | n + 1 => by
    unfold fitN
    split
    · exact Nat.le_refl _
    · exact Nat.le_succ_of_le (fitN_le o n)
theorem fitN_yes (o : OptM) (n : Nat) (h : sizeO { o with sacks := o.sacks.take n } ≤ 40) : fitN o n = n := by
  cases n with
  | zero => rfl
  | succ n => unfold fitN; rw [if_pos h]
theorem fitN_no (o : OptM) (n : Nat) (h : ¬ sizeO { o with sacks := o.sacks.take (n + 1) } ≤ 40) : fitN o (n + 1) = fitN o n := by
  conv => lhs; unfold fitN
  rw [if_neg h]
def FitRes (B : Nat) (w : World) (o : OptM) (e : Ending) (w' : World) : Prop := ∃ A c, e = .returned (.agg ({ o with A := A, c := c, sacks := o.sacks.take (fitK o) } : OptM).cells) ∧ OptOk w' { o with A := A, c := c, sacks := o.sacks.take (fitK o) } ∧ Below B w w'
theorem fit_res {B n : Nat} {w w' : World} {o q : OptM} {A : Option Addr} {c : Nat} (hn : fitK o = n) (hq : q = { o with A := A, c := c, sacks := o.sacks.take n }) (ho : OptOk w' q) (hb : Below B w w') : FitRes B w o (.returned (.agg q.cells)) w' := by
  subst hn hq
  exact ⟨A, c, rfl, ho, hb⟩
theorem opt_sacks {w W : World} {o : OptM} (ho : OptOk w o) {A : Option Addr} {c n : Nat} (hr : Row W 2 A (o.sacks.take n).length c (bcs (o.sacks.take n))) : OptOk W { o with A := A, c := c, sacks := o.sacks.take n } := ⟨ho.mss, ho.scale, ho.val, ho.echo, ho.key, ho.next, ho.mac, hr, ho.ok.take n⟩
/-- Clone, of so many; where the new row stands. -/
theorem cloneB_any' (A : Option Addr) (c n : Nat) (ss : List (Nat × Nat)) (w : World) (hn : ss.length = n) (h : Row w 2 A n c (bcs ss)) (hl : n ≤ 1000) :
    Calls Try.prog 34 #[.slice A n c] w fun e w' => ∃ A' c', e = .returned (.slice A' n c') ∧ (Row w' 2 A' n c' (bcs ss) ∧ ∀ g, g < w.heap.size → ∀ ad, A' = some ad → 0 < (bcs ss).length → ad.block ≠ g) ∧ Below w.heap.size w w' := by
  subst hn
  refine (cloneB_any A c ss w h hl).mono ?_
  rintro e w' ⟨A', c', rfl, h1, h2, h3⟩
  exact ⟨A', c', rfl, ⟨h1, fun g hg ad hA _ => by have := h2 ad hA; omega⟩, h3⟩
set_option maxRecDepth 20000 in
set_option maxHeartbeats 8000000 in
theorem fit12_any (o : OptM) (w : World) (ho : OptOk w o) (hsl : o.sacks.length ≤ 1000) : Calls Try.prog 19 #[.agg o.cells] w (FitRes w.heap.size w o) := by
  have HO := hid ho
  have HML := hid ho.mac
  have HRW := hid (fun W (h : Below w.heap.size w W) => ho.row.below h)
  have HRC := hid ho.row.cap
  have HI := hid (info_optsX o ho.mac)
  have HN := hid alloc_noOpt
  have HNZ := hid noOpt_size
  have HSL := hid hsl
  obtain ⟨k0, hk0⟩ : ∃ k, min o.sacks.length 4 = k := ⟨_, rfl⟩
  have HK0 := hid hk0
  have HFK := hid (show fitK o = fitN o k0 by unfold fitK; rw [hk0])
  have hm1 : min (o.sacks.length : Int) 4 = (k0 : Int) := by omega
  have hm2 : (if (o.sacks.length : Int) < 4 then (o.sacks.length : Int) else 4) = (k0 : Int) := by split <;> omega
  have hm3 : (if (4 : Int) < (o.sacks.length : Int) then 4 else (o.sacks.length : Int)) = (k0 : Int) := by split <;> omega
  have hm4 : (if (o.sacks.length : Int) ≤ 4 then (o.sacks.length : Int) else 4) = (k0 : Int) := by split <;> omega
  have HPC := hid (fun (q : OptM) (W : World) (g : Nat) (h : W.heap[g]? = some (.cells q.cells 27 (0, 0))) => opt_cells h)
  have HFZ := hid (fun (q : OptM) (W : World) (g k : Nat) (h : W.heap[g]? = some (.cells q.cells 27 (0, 0))) => Lib.frozen_of_heap h k)
  obtain ⟨B, hB⟩ : ∃ x, w.heap.size = x := ⟨_, rfl⟩
  rw [hB] at HRW ⊢
  have HB := hid hB
  clear hB ho hk0 hsl
  go_enter Try.func19, Try.ntmps19
  go_upto_region 2 with (first
    | ((with_reducible refine at_slot 1 ?_); refine wpList_boxF rfl 27 (.tmp 0) rfl o.cells rfl ?_; intro w1 hx1 hb1 hz1; rw [HB.out] at hx1 hb1 hz1 ⊢)
    | ((with_reducible refine at_slot 2 ?_); refine wpList_allocF rfl 27 rfl _ HN.out ?_; intro w2 hx2 hb2 hz2; rw [hz1] at hx2 hb2 hz2 ⊢; have hy1 := (hb2.block _ (by omega)).trans hx1; have X := hid hy1; have Y := hid hx2; have BB := hid (hb1.trans (hb2.mono (by omega))); have Z := hid hz2; clear hx1 hx2 hb1 hb2 hz1 hz2 hy1)
    | ((with_reducible refine at_slot 5 ?_); refine wpList_load_row rfl 27 (.tmp 1) rfl B rfl _ o.cells _ _ X.out Try.underlying27 rfl HI.out ?_)
    | ((with_reducible refine at_slot 3 ?_); refine wpList_allocF rfl 27 rfl _ HN.out ?_; intro w3 hx3 hb3 hz3; rw [Z.out] at hx3 hb3 hz3 ⊢; replace X := hid ((hb3.block _ (by omega)).trans X.out); replace Y := hid ((hb3.block _ (by omega)).trans Y.out); have V := hid hx3; replace BB := hid (BB.out.trans (hb3.mono (by omega))); clear hx3 hb3 hz3)
    | ((with_reducible refine at_store 3 5 ?_); refine wpList_rowF rfl 27 (.tmp 3) (.tmp 5) rfl (B + 1 + 1) 27 _ o.cells rfl rfl V.out HI.out (by rw [HNZ.out, OptM.size o HML.out]) (OptM.one o) ?_; intro w4 h4 m4 z4; replace V := hid h4; replace X := hid (m4.keeps X.out (by simp <;> omega)); replace Y := hid (m4.keeps Y.out (by simp <;> omega)); replace BB := hid (Mod.below BB.out m4 (Nat.le_of_eq HB.out.symm) (by simp <;> omega)); clear h4 m4 z4 Z))
  have ev := (HPC.out o _ _ V.out).2.2.2.2.2.1
  have zv := HFZ.out o _ _ 5 V.out
  have ex := (HPC.out o _ _ X.out).2.2.2.2.2.1
  have hm5 : Mod [B + 1 + 1] w4 (w4.setCell ⟨B + 1 + 1, 5, none⟩ (.slice none 0 0)) := Mod.setCell _ _ _ (by simp)
  have hv5 := rowSetCell V.out 5 (.slice none 0 0)
  rw [show (Value.slice none 0 0) = .slice none ([] : List (Nat × Nat)).length 0 from rfl, set_s5 o HML.out none 0 []] at hv5
  have X5 := hid (hm5.keeps X.out (by simp <;> omega))
  have Y5 := hid (hm5.keeps Y.out (by simp <;> omega))
  have B5 := hid (Mod.below BB.out hm5 (Nat.le_of_eq HB.out.symm) (by simp <;> omega))
  have e5 := (HPC.out o _ _ X5.out).2.2.2.2.2.1
  go_wp2_with fail
  clear ev zv ex hm1 hm2 hm3 hm4 e5
  go_loopw [4] (fun i wr => ∃ (n : Nat) (o3 : OptM), n ≤ k0 ∧ i = .int .i64 n ∧ wr.heap[B]? = some (.cells o.cells 27 (0, 0)) ∧ wr.heap[B + 1]? = some (.cells noOpt.cells 27 (0, 0)) ∧ wr.heap[B + 1 + 1]? = some (.cells o3.cells 27 (0, 0)) ∧ o3.mac.length = 12 ∧ (∀ A c ss, ({ o3 with A := A, c := c, sacks := ss } : OptM) = { o with A := A, c := c, sacks := ss }) ∧ fitK o = fitN o n ∧ Below B w wr) (fun i _ => (intOf i).toNat)
  case atStart => exact ⟨k0, { o with A := none, c := 0, sacks := [] }, Nat.le_refl _, rfl, X5.out, Y5.out, hv5, HML.out, fun _ _ _ => rfl, HFK.out, B5.out⟩
  case round =>
    obtain ⟨n, o3, hn, rfl, hx, hy, hv, hmac, ho3, hfk, hb⟩ := hrel
    have X := hid hx
    have Y := hid hy
    have V := hid hv
    have BB := hid hb
    have HFN := hid hfk
    have HMC3 := hid hmac
    have HO3 := hid ho3
    have HNL := hid (show n ≤ o.sacks.length ∧ n ≤ 4 by have := HK0.out; omega)
    clear hx hy hv hb hfk hmac ho3 X5 Y5 B5 hv5 hm5
    cases n with
    | zero =>
      have ex := (HPC.out o _ _ X.out).2.2.2.2.2.1
      have zx := HFZ.out o _ _ 5 X.out
      have hcut := cut_blk o.A o.sacks.length o.c 0 (by have := HRC.out; have := HNL.out; omega)
      go_wp2_with fail
      have HTR := hid (HRW.out _ BB.out |>.takeB 0 (by have := HNL.out; omega))
      have HTL := hid (show (o.sacks.take 0).length = 0 by rw [List.length_take]; have := HNL.out; omega)
      (with_reducible refine Calls.mono (cloneB_any' _ _ 0 (o.sacks.take 0) _ HTL.out HTR.out (by have := HTL.out; have := HSL.out; have := HNL.out; omega)) ?_)
      rintro e w8 ⟨A8, c8, rfl, hr8, hb8⟩
      have X8 := hid ((hb8.block _ (by have := (Array.getElem?_eq_some_iff.1 X.out).1; omega)).trans X.out)
      have Y8 := hid ((hb8.block _ (by have := (Array.getElem?_eq_some_iff.1 Y.out).1; omega)).trans Y.out)
      have B8 := hid (BB.out.trans (hb8.mono (by have := BB.out.size; have := HB.out; omega)))
      have R8 := hid hr8
      skip
      clear ex zx hcut hr8 hb8
      have ex := (HPC.out o _ _ X8.out).2.2.2.2.2.1
      have zx := HFZ.out o _ _ 5 X8.out
      have hm9 : Mod [B] w8 (w8.setCell ⟨B, 5, none⟩ (.slice A8 0 c8)) := Mod.setCell _ _ _ (by simp)
      have hx9 := rowSetCell X8.out 5 (.slice A8 0 c8)
      have HX9 := hid (show (w8.setCell ⟨B, 5, none⟩ (.slice A8 0 c8)).heap[B]? = some (.cells ({ o with A := A8, c := c8, sacks := o.sacks.take 0 } : OptM).cells 27 (0, 0)) by have := set_s5 o HML.out A8 c8 (o.sacks.take 0); rw [HTL.out] at this; rw [← this]; exact hx9)
      have HY9 := hid (hm9.keeps Y8.out (by simp))
      have HB9 := hid (Mod.below B8.out hm9 (Nat.le_of_eq HB.out.symm) (by simp))
      have HM9 := hid hm9
      clear hm9 hx9
      obtain ⟨q, hq⟩ : ∃ q : OptM, ({ o with A := A8, c := c8, sacks := o.sacks.take 0 } : OptM) = q := ⟨_, rfl⟩
      rw [hq] at HX9
      have HQ := hid hq
      have HIQ := hid (info_optsX q (by rw [← hq]; exact HML.out))
      have HSQ := hid (show noOpt.cells.size = q.cells.size by rw [HNZ.out, OptM.size q (by rw [← hq]; exact HML.out)])
      clear hq
      go_wp2_with (first
        | ((with_reducible refine at_slot 29 ?_); refine wpList_load_row rfl 27 (.tmp 1) rfl B rfl _ q.cells _ _ HX9.out Try.underlying27 rfl HIQ.out ?_)
        | ((with_reducible refine at_store 2 29 ?_); refine wpList_rowF rfl 27 (.tmp 2) (.tmp 29) rfl (B + 1) 27 _ q.cells rfl rfl HY9.out HIQ.out HSQ.out (OptM.one q) ?_; intro w10 h10 m10 z10))
      try simp only [Act.put, List.setIfInBounds_toArray, List.set_cons_zero, List.set_cons_succ]
      refine ret_cell1 (p := 2) rfl rfl h10 Try.underlying27 rfl HIQ.out ?_
      refine fit_res (n := 0) (A := A8) (c := c8) (by rw [HFN.out]; rfl) HQ.out.symm ?_ (Mod.below HB9.out m10 (Nat.le_of_eq HB.out.symm) (by simp))
      rw [← HQ.out]
      refine opt_sacks HO.out ?_
      rw [HTL.out]
      exact (R8.out.1.mod1 HM9.out (R8.out.2 B (by have := (Array.getElem?_eq_some_iff.1 X.out).1; omega))).mod1 m10 (R8.out.2 (B + 1) (by have := (Array.getElem?_eq_some_iff.1 Y.out).1; omega))
    | succ n =>
      have t0 : decide ((0 : Int) < ((n + 1 : Nat) : Int)) = true := by rw [decide_eq_true_eq]; omega
      obtain ⟨n1, hn1⟩ : ∃ m, n + 1 = m := ⟨_, rfl⟩
      rw [hn1] at t0 HNL HFN hn ⊢
      have HN1 := hid hn1
      clear hn1
      have t1 : decide (0 < n1) = true := by rw [decide_eq_true_eq]; have := HN1.out; omega
      have t2 : 0 < n1 := of_decide_eq_true t1
      have ex := (HPC.out o _ _ X.out).2.2.2.2.2.1
      have ev := (HPC.out o3 _ _ V.out).2.2.2.2.2.1
      have zv := HFZ.out o3 _ _ 5 V.out
      have hcut := cut_blk o.A o.sacks.length o.c n1 (by have := HRC.out; have := HNL.out; omega)
      have HTL := hid (show (o.sacks.take n1).length = n1 by rw [List.length_take]; have := HNL.out; omega)
      have hm6 : Mod [B + 1 + 1] wr (wr.setCell ⟨B + 1 + 1, 5, none⟩ (.slice o.A n1 o.c)) := Mod.setCell _ _ _ (by simp)
      have hv6 := rowSetCell V.out 5 (.slice o.A n1 o.c)
      have HV6 := hid (show (wr.setCell ⟨B + 1 + 1, 5, none⟩ (.slice o.A n1 o.c)).heap[B + 1 + 1]? = some (.cells ({ o with sacks := o.sacks.take n1 } : OptM).cells 27 (0, 0)) by have := set_s5 o3 HMC3.out o.A o.c (o.sacks.take n1); rw [HTL.out, HO3.out] at this; rw [← this]; exact hv6)
      have X6 := hid (hm6.keeps X.out (by simp <;> omega))
      have Y6 := hid (hm6.keeps Y.out (by simp <;> omega))
      have B6 := hid (Mod.below BB.out hm6 (Nat.le_of_eq HB.out.symm) (by simp <;> omega))
      have HTR := hid (HRW.out _ B6.out |>.takeB n1 (by have := HNL.out; omega))
      have OK6 := hid (opt_sacks HO.out (A := o.A) (c := o.c) (n := n1) (by rw [HTL.out]; exact HTR.out))
      have HI6 := hid (info_optsX { o with sacks := o.sacks.take n1 } HML.out)
      have HSZ6 := hid (size_any { o with sacks := o.sacks.take n1 } _ OK6.out (by show (o.sacks.take n1).length ≤ 1000; rw [HTL.out]; have := HNL.out; omega))
      obtain ⟨t, ht⟩ : ∃ t, decide (sizeO { o with sacks := o.sacks.take n1 } ≤ 40) = t := ⟨_, rfl⟩
      have ht2 : decide ((sizeO { o with sacks := o.sacks.take n1 } : Int) ≤ 40) = t := by rw [← ht, decide_eq_decide]; omega
      have HT := hid ht
      clear ht hv6 hm6
      generalize hc6 : ({ o with sacks := o.sacks.take n1 } : OptM).cells = c6 at HV6 HI6 HSZ6
      have HC6 := hid hc6.symm
      clear hc6
      generalize hsz6 : sizeO { o with sacks := o.sacks.take n1 } = sz at HSZ6 ht2 HT
      have HS6 := hid hsz6
      clear hsz6
      go_wp2_with ((with_reducible refine at_slot 18 ?_); refine wpList_load_row rfl 27 (.tmp 3) rfl (B + 1 + 1) rfl _ c6 _ _ HV6.out Try.underlying27 rfl HI6.out ?_)
      (with_reducible refine Calls.mono HSZ6.out ?_)
      rintro e w7 ⟨rfl, hb7⟩
      have X7 := hid ((hb7.block _ (Array.getElem?_eq_some_iff.1 X6.out).1).trans X6.out)
      have Y7 := hid ((hb7.block _ (Array.getElem?_eq_some_iff.1 Y6.out).1).trans Y6.out)
      have V7 := hid ((hb7.block _ (Array.getElem?_eq_some_iff.1 HV6.out).1).trans HV6.out)
      have B7 := hid (B6.out.trans (hb7.mono (by have := B6.out.size; have := HB.out; omega)))
      clear ex ev zv hcut hb7 X Y V BB HTR HTL X6 Y6 HV6 B6 OK6 HSZ6 HI6
      cases t
      case false =>
        have hw : IntKind.i64.wrap ((n1 : Int) - 1) = (n : Int) := by rw [IntKind.wrap_i64]; have := HN1.out; have := HNL.out; omega
        go_wp2_with fail
        go_roundw
        case rel => exact ⟨n, { o with sacks := o.sacks.take n1 }, (by have := HN1.out; omega), (by go_num), X7.out, Y7.out, HC6.out ▸ V7.out, HML.out, fun _ _ _ => rfl, (by rw [HFN.out, ← HN1.out]; exact fitN_no o n (by rw [HN1.out, HS6.out]; exact of_decide_eq_false HT.out)), B7.out⟩
        case measure => (have h8 := HN1.out; simp [intOf] <;> omega)
      case true =>
        have X := X7
        have Y := Y7
        have BB := B7
        clear X7 Y7 V7 B7
        have ex := (HPC.out o _ _ X.out).2.2.2.2.2.1
        have zx := HFZ.out o _ _ 5 X.out
        have hcut := cut_blk o.A o.sacks.length o.c n1 (by have := HRC.out; have := HNL.out; omega)
        go_wp2_with fail
        have HTR := hid (HRW.out _ BB.out |>.takeB n1 (by have := HNL.out; omega))
        have HTL := hid (show (o.sacks.take n1).length = n1 by rw [List.length_take]; have := HNL.out; omega)
        (with_reducible refine Calls.mono (cloneB_any' _ _ n1 (o.sacks.take n1) _ HTL.out HTR.out (by have := HTL.out; have := HSL.out; have := HNL.out; omega)) ?_)
        rintro e w8 ⟨A8, c8, rfl, hr8, hb8⟩
        have X8 := hid ((hb8.block _ (by have := (Array.getElem?_eq_some_iff.1 X.out).1; omega)).trans X.out)
        have Y8 := hid ((hb8.block _ (by have := (Array.getElem?_eq_some_iff.1 Y.out).1; omega)).trans Y.out)
        have B8 := hid (BB.out.trans (hb8.mono (by have := BB.out.size; have := HB.out; omega)))
        have R8 := hid hr8
        skip
        clear ex zx hcut hr8 hb8
        have ex := (HPC.out o _ _ X8.out).2.2.2.2.2.1
        have zx := HFZ.out o _ _ 5 X8.out
        have hm9 : Mod [B] w8 (w8.setCell ⟨B, 5, none⟩ (.slice A8 n1 c8)) := Mod.setCell _ _ _ (by simp)
        have hx9 := rowSetCell X8.out 5 (.slice A8 n1 c8)
        have HX9 := hid (show (w8.setCell ⟨B, 5, none⟩ (.slice A8 n1 c8)).heap[B]? = some (.cells ({ o with A := A8, c := c8, sacks := o.sacks.take n1 } : OptM).cells 27 (0, 0)) by have := set_s5 o HML.out A8 c8 (o.sacks.take n1); rw [HTL.out] at this; rw [← this]; exact hx9)
        have HY9 := hid (hm9.keeps Y8.out (by simp))
        have HB9 := hid (Mod.below B8.out hm9 (Nat.le_of_eq HB.out.symm) (by simp))
        have HM9 := hid hm9
        clear hm9 hx9
        obtain ⟨q, hq⟩ : ∃ q : OptM, ({ o with A := A8, c := c8, sacks := o.sacks.take n1 } : OptM) = q := ⟨_, rfl⟩
        rw [hq] at HX9
        have HQ := hid hq
        have HIQ := hid (info_optsX q (by rw [← hq]; exact HML.out))
        have HSQ := hid (show noOpt.cells.size = q.cells.size by rw [HNZ.out, OptM.size q (by rw [← hq]; exact HML.out)])
        clear hq
        go_wp2_with (first
          | ((with_reducible refine at_slot 29 ?_); refine wpList_load_row rfl 27 (.tmp 1) rfl B rfl _ q.cells _ _ HX9.out Try.underlying27 rfl HIQ.out ?_)
          | ((with_reducible refine at_store 2 29 ?_); refine wpList_rowF rfl 27 (.tmp 2) (.tmp 29) rfl (B + 1) 27 _ q.cells rfl rfl HY9.out HIQ.out HSQ.out (OptM.one q) ?_; intro w10 h10 m10 z10))
        try simp only [Act.put, List.setIfInBounds_toArray, List.set_cons_zero, List.set_cons_succ]
        refine ret_cell1 (p := 2) rfl rfl h10 Try.underlying27 rfl HIQ.out ?_
        refine fit_res (n := n1) (A := A8) (c := c8) (by rw [HFN.out]; exact fitN_yes o n1 (by rw [HS6.out]; exact of_decide_eq_true HT.out)) HQ.out.symm ?_ (Mod.below HB9.out m10 (Nat.le_of_eq HB.out.symm) (by simp))
        rw [← HQ.out]
        refine opt_sacks HO.out ?_
        rw [HTL.out]
        exact (R8.out.1.mod1 HM9.out (R8.out.2 B (by have := (Array.getElem?_eq_some_iff.1 X.out).1; omega))).mod1 m10 (R8.out.2 (B + 1) (by have := (Array.getElem?_eq_some_iff.1 Y.out).1; omega))
end Go.Proofs.Ythodepdgmcagjaa
namespace Go.Proofs.Ythodepdgmcagjaa
set_option linter.unusedVariables false
set_option linter.unusedSimpArgs false
open Go.RowKit

set_option maxRecDepth 20000 in
set_option maxHeartbeats 8000000 in
theorem rfit12_any (o : OptM) (w : World) (ho : OptOk w o) (hsl : o.sacks.length ≤ 1000) : Calls Try.prog 22 #[.agg o.cells] w (FitRes w.heap.size w o) := by
  have HO := hid ho
  have HML := hid ho.mac
  have HRW := hid (fun W (h : Below w.heap.size w W) => ho.row.below h)
  have HRC := hid ho.row.cap
  have HI := hid (info_optsX o ho.mac)
  have HN := hid alloc_noOpt
  have HNZ := hid noOpt_size
  have HSL := hid hsl
  obtain ⟨k0, hk0⟩ : ∃ k, min o.sacks.length 4 = k := ⟨_, rfl⟩
  have HK0 := hid hk0
  have HFK := hid (show fitK o = fitN o k0 by unfold fitK; rw [hk0])
  have hm1 : min (o.sacks.length : Int) 4 = (k0 : Int) := by omega
  have hm2 : (if (o.sacks.length : Int) < 4 then (o.sacks.length : Int) else 4) = (k0 : Int) := by split <;> omega
  have hm3 : (if (4 : Int) < (o.sacks.length : Int) then 4 else (o.sacks.length : Int)) = (k0 : Int) := by split <;> omega
  have hm4 : (if (o.sacks.length : Int) ≤ 4 then (o.sacks.length : Int) else 4) = (k0 : Int) := by split <;> omega
  have HPC := hid (fun (q : OptM) (W : World) (g : Nat) (h : W.heap[g]? = some (.cells q.cells 27 (0, 0))) => opt_cells h)
  have HFZ := hid (fun (q : OptM) (W : World) (g k : Nat) (h : W.heap[g]? = some (.cells q.cells 27 (0, 0))) => Lib.frozen_of_heap h k)
  obtain ⟨B, hB⟩ : ∃ x, w.heap.size = x := ⟨_, rfl⟩
  rw [hB] at HRW ⊢
  have HB := hid hB
  clear hB ho hk0 hsl
  obtain ⟨ib, zb, hib, hzb, hb1', hb2', hb3'⟩ := info_blkO
  go_enter Try.func22, Try.ntmps22
  go_wp2_with (first
    | ((with_reducible refine at_slot 1 ?_); refine wpList_boxF rfl 27 (.tmp 0) rfl o.cells rfl ?_; intro w1 hx1 hb1 hz1; rw [HB.out] at hx1 hb1 hz1 ⊢)
    | ((with_reducible refine at_slot 2 ?_); refine wpList_allocF rfl 27 rfl _ HN.out ?_; intro w2 hx2 hb2 hz2; rw [hz1] at hx2 hb2 hz2 ⊢; have hy1 := (hb2.block _ (by omega)).trans hx1; have X := hid hy1; have Y := hid hx2; have BB := hid (hb1.trans (hb2.mono (by omega))); have Z := hid hz2; clear hx1 hx2 hb1 hb2 hz1 hz2 hy1; have ex := (HPC.out o _ _ X.out).2.2.2.2.2.1))
  clear ex hm1 hm2 hm3 hm4
  go_loopw [4] (fun i wr => ∃ (j : Nat) (o3 : OptM), j ≤ k0 + 1 ∧ i = .int .i64 ((j : Int) - 1) ∧ wr.heap[B]? = some (.cells o3.cells 27 (0, 0)) ∧ wr.heap[B + 1]? = some (.cells noOpt.cells 27 (0, 0)) ∧ o3.mac.length = 12 ∧ (∀ A c ss, ({ o3 with A := A, c := c, sacks := ss } : OptM) = { o with A := A, c := c, sacks := ss }) ∧ (j = 0 → fitK o = 0 ∧ (∃ A c, o3 = { o with A := A, c := c, sacks := o.sacks.take 0 }) ∧ OptOk wr o3 ∧ (∀ ad, o3.A = some ad → 0 < (bcs o3.sacks).length → ad.block ≠ B + 1)) ∧ (0 < j → fitK o = fitN o (j - 1)) ∧ Below B w wr) (fun i _ => (intOf i + 1).toNat)
  case atStart => exact ⟨k0 + 1, o, Nat.le_refl _, (by have : ((k0 + 1 : Nat) : Int) - 1 = (k0 : Int) := (by omega); rw [this]), X.out, Y.out, HML.out, fun _ _ _ => rfl, (fun h => by omega), (fun _ => HFK.out), BB.out⟩
  case round =>
    obtain ⟨j, o3, hj, rfl, hx, hy, hmac, ho3, hz, hp, hb⟩ := hrel
    have X := hid hx
    have Y := hid hy
    have BB := hid hb
    have HMC3 := hid hmac
    have HO3 := hid ho3
    have HZJ := hid hz
    have HPJ := hid hp
    clear hx hy hmac ho3 hz hp hb
    cases j with
    | zero =>
      obtain ⟨hk, ⟨A3, c3, h3⟩, hok, hne⟩ := HZJ.out rfl
      have HK := hid hk
      have H3 := hid h3
      have HOK := hid hok
      have HNE := hid hne
      clear hk h3 hok hne HZJ HPJ
      have t0 : decide ((0 : Int) ≤ ((0 : Nat) : Int) - 1) = false := by rw [decide_eq_false_iff_not]; omega
      have HIQ := hid (info_optsX o3 HMC3.out)
      have HSQ := hid (show noOpt.cells.size = o3.cells.size by rw [HNZ.out, OptM.size o3 HMC3.out])
      go_wp2_with (first
        | ((with_reducible refine at_slot 22 ?_); refine wpList_load_row rfl 27 (.tmp 1) rfl B rfl _ o3.cells _ _ X.out Try.underlying27 rfl HIQ.out ?_)
        | ((with_reducible refine at_store 2 22 ?_); refine wpList_rowF rfl 27 (.tmp 2) (.tmp 22) rfl (B + 1) 27 _ o3.cells rfl rfl Y.out HIQ.out HSQ.out (OptM.one o3) ?_; intro w10 h10 m10 z10))
      try simp only [Act.put, List.setIfInBounds_toArray, List.set_cons_zero, List.set_cons_succ]
      refine ret_cell1 (p := 2) rfl rfl h10 Try.underlying27 rfl HIQ.out ?_
      exact fit_res (n := 0) (A := A3) (c := c3) HK.out H3.out (HOK.out.mod1 m10 HNE.out) (Mod.below BB.out m10 (Nat.le_of_eq HB.out.symm) (by simp))
    | succ n =>
      have HFN := hid (show fitK o = fitN o n from HPJ.out (by omega))
      have HNL := hid (show n ≤ o.sacks.length ∧ n ≤ 4 by have := HK0.out; omega)
      clear HZJ HPJ
      have e0 : ((n + 1 : Nat) : Int) - 1 = (n : Int) := by omega
      rw [e0]
      clear e0
      have t0 : decide ((0 : Int) ≤ (n : Int)) = true := by rw [decide_eq_true_eq]; omega
      have ex := (HPC.out o3 _ _ X.out).2.2.2.2.2.1
      have zx := HFZ.out o3 _ _ 5 X.out
      have hcut := cut_blk o.A o.sacks.length o.c n (by have := HRC.out; have := HNL.out; omega)
      have HTL := hid (show (o.sacks.take n).length = n by rw [List.length_take]; have := HNL.out; omega)
      have HTR := hid (HRW.out _ BB.out |>.takeB n (by have := HNL.out; omega))
      have HBS := hid (show B ≤ wr.heap.size by have := BB.out.size; have := HB.out; omega)
      go_upto_region 6 with ((with_reducible refine at_slot 17 ?_); refine wpList_append_row _ rfl (.const (.slice none 0 0)) (.tmp 16) 23 rfl wr.heap.size 43 ib zb 2 8 Try.underlying23 hib hzb hb1' hb2' hb3' (by decide) _ 0 [] rfl (World.ownsRow_nil _ _ _ _) _ n o.c (bcs (o.sacks.take n)) rfl HTR.out (one_bcsO _) (by have := HNL.out; show 0 + n ≤ 9223372036854775807; omega) (by have := HNL.out; omega) (Nat.le_refl _) ?_; intro v3 w3 ho3 hg3 hk3; rw [Nat.zero_add, List.nil_append] at ho3; obtain ⟨A5, c5, hv5, hr5⟩ := Row.of_own ho3; subst hv5; have hge := own_ge ho3; have R5 := hid hr5; have hb3 := Mod.of_below (below_grown (Below.refl _ _) (World.ownsRow_nil wr wr.heap.size 43 2) hg3 (Nat.le_refl _) (Nat.le_refl _)); have GE5 := hid (fun ad (hA : A5 = some ad) => (hge ad.block (by rw [hA]; rfl) : wr.heap.size ≤ ad.block)); have X5 := hid (hb3.keeps X.out (by simp)); have Y5 := hid (hb3.keeps Y.out (by simp)); have B5 := hid (Mod.below BB.out hb3 (Nat.le_of_eq HB.out.symm) (by simp)); have ex5 := (HPC.out o3 _ _ X5.out).2.2.2.2.2.1; have zx5 := HFZ.out o3 _ _ 5 X5.out; clear ho3 hg3 hk3 hr5 hge hb3)
      have hm6 : Mod [B] w3 (w3.setCell ⟨B, 5, none⟩ (.slice A5 n c5)) := Mod.setCell _ _ _ (by simp)
      have hx6 := rowSetCell X5.out 5 (.slice A5 n c5)
      have HX6 := hid (show (w3.setCell ⟨B, 5, none⟩ (.slice A5 n c5)).heap[B]? = some (.cells ({ o with A := A5, c := c5, sacks := o.sacks.take n } : OptM).cells 27 (0, 0)) by have := set_s5 o3 HMC3.out A5 c5 (o.sacks.take n); rw [HTL.out, HO3.out] at this; rw [← this]; exact hx6)
      have Y6 := hid (hm6.keeps Y5.out (by simp))
      have B6 := hid (Mod.below B5.out hm6 (Nat.le_of_eq HB.out.symm) (by simp))
      have hlt := (Array.getElem?_eq_some_iff.1 X.out).1
      have hlt1 := (Array.getElem?_eq_some_iff.1 Y.out).1
      have R6 := hid (R5.out.mod1 hm6 (fun ad hA _ => by have := GE5.out ad hA; omega))
      have NE6 := hid (fun ad (hA : A5 = some ad) => (by have := GE5.out ad hA; omega : ad.block ≠ B + 1))
      have OK6 := hid (opt_sacks HO.out (A := A5) (c := c5) (n := n) (by rw [HTL.out]; exact R6.out))
      clear ex zx hcut hx6 hm6 hlt hlt1 X Y BB HTR HBS R5 GE5 X5 Y5 B5 ex5 zx5
      generalize w3.setCell ⟨B, 5, none⟩ (.slice A5 n c5) = w6 at HX6 Y6 B6 R6 OK6 ⊢
      have HSZ6 := hid (rsize12_any { o with A := A5, c := c5, sacks := o.sacks.take n } _ OK6.out (by show (o.sacks.take n).length ≤ 1000; rw [HTL.out]; have := HNL.out; omega))
      have HS6 := hid (show sizeO ({ o with A := A5, c := c5, sacks := o.sacks.take n } : OptM) = sizeO { o with sacks := o.sacks.take n } from rfl)
      rw [HS6.out] at HSZ6
      obtain ⟨t, ht⟩ : ∃ t, decide (sizeO { o with sacks := o.sacks.take n } ≤ 40) = t := ⟨_, rfl⟩
      have ht2 : decide ((sizeO { o with sacks := o.sacks.take n } : Int) ≤ 40) = t := by rw [← ht, decide_eq_decide]; omega
      have HT := hid ht
      clear ht HS6
      have HMQ := hid (show ({ o with A := A5, c := c5, sacks := o.sacks.take n } : OptM).mac.length = 12 from HML.out)
      have HOQ := hid (show ∀ A c ss, ({ ({ o with A := A5, c := c5, sacks := o.sacks.take n } : OptM) with A := A, c := c, sacks := ss } : OptM) = { o with A := A, c := c, sacks := ss } from fun _ _ _ => rfl)
      have HAQ := hid (show ({ o with A := A5, c := c5, sacks := o.sacks.take n } : OptM).A = A5 from rfl)
      generalize hsz6 : sizeO { o with sacks := o.sacks.take n } = sz at HSZ6 ht2 HT
      have HS6 := hid hsz6
      clear hsz6
      obtain ⟨q, hq⟩ : ∃ q : OptM, ({ o with A := A5, c := c5, sacks := o.sacks.take n } : OptM) = q := ⟨_, rfl⟩
      rw [hq] at HX6 OK6 HSZ6 HMQ HOQ HAQ
      have HQ := hid hq
      clear hq
      have HIQ := hid (info_optsX q HMQ.out)
      have HSQ := hid (show noOpt.cells.size = q.cells.size by rw [HNZ.out, OptM.size q HMQ.out])
      go_wp2_with ((with_reducible refine at_slot 19 ?_); refine wpList_load_row rfl 27 (.tmp 1) rfl B rfl _ q.cells _ _ HX6.out Try.underlying27 rfl HIQ.out ?_)
      (with_reducible refine Calls.mono HSZ6.out ?_)
      rintro e w7 ⟨rfl, hb7⟩
      have X7 := hid ((hb7.block _ (Array.getElem?_eq_some_iff.1 HX6.out).1).trans HX6.out)
      have Y7 := hid ((hb7.block _ (Array.getElem?_eq_some_iff.1 Y6.out).1).trans Y6.out)
      have B7 := hid (B6.out.trans (hb7.mono (by have := B6.out.size; have := HB.out; omega)))
      have OK7 := hid (OK6.out.below hb7)
      clear hb7 HX6 Y6 B6 R6 OK6 HSZ6
      cases t
      case false =>
        have hw : IntKind.i64.wrap ((n : Int) - 1) = (n : Int) - 1 := by rw [IntKind.wrap_i64]; have := HNL.out; omega
        have hn4 : n ≤ 4 := HNL.out.2
        go_wp2_with fail
        go_roundw
        case rel =>
          refine ⟨n, q, (by have := HNL.out; have := hj; omega), (by first | rfl | go_num), X7.out, Y7.out, HMQ.out, HOQ.out, (fun h0 => ?_), (fun hp => ?_), B7.out⟩
          · subst h0
            exact ⟨HFN.out, ⟨A5, c5, HQ.out.symm⟩, OK7.out, fun ad hA hl => NE6.out ad (HAQ.out ▸ hA)⟩
          · obtain ⟨m, rfl⟩ : ∃ m, n = m + 1 := ⟨n - 1, by omega⟩
            rw [HFN.out]
            exact fitN_no o m (by rw [HS6.out]; exact of_decide_eq_false HT.out)
        case measure => (simp [intOf] <;> omega)
      case true =>
        go_wp2_with (first
          | ((with_reducible refine at_slot 22 ?_); refine wpList_load_row rfl 27 (.tmp 1) rfl B rfl _ q.cells _ _ X7.out Try.underlying27 rfl HIQ.out ?_)
          | ((with_reducible refine at_store 2 22 ?_); refine wpList_rowF rfl 27 (.tmp 2) (.tmp 22) rfl (B + 1) 27 _ q.cells rfl rfl Y7.out HIQ.out HSQ.out (OptM.one q) ?_; intro w10 h10 m10 z10))
        try simp only [Act.put, List.setIfInBounds_toArray, List.set_cons_zero, List.set_cons_succ]
        refine ret_cell1 (p := 2) rfl rfl h10 Try.underlying27 rfl HIQ.out ?_
        exact fit_res (n := n) (A := A5) (c := c5) (by rw [HFN.out]; exact fitN_yes o n (by rw [HS6.out]; exact of_decide_eq_true HT.out)) HQ.out.symm (OK7.out.mod1 m10 (fun ad hA hl => NE6.out ad (HAQ.out ▸ hA))) (Mod.below B7.out m10 (Nat.le_of_eq HB.out.symm) (by simp))
set_option maxRecDepth 20000 in
set_option maxHeartbeats 4000000 in
theorem lawTurns12_any (o : OptM) (w : World) (ho : OptOk w o) : Calls Try.prog 7 #[.agg o.cells] w fun e w' => e = .returned (.bool true) ∧ Below w.heap.size w w' := by
  have HF := hid (fun W (h : Below w.heap.size w W) => far12_any o W (ho.below h))
  have HBA := hid (fun W (h : Below w.heap.size w W) => bare12_any o W (ho.below h))
  have HRB := hid (fun W (h : Below w.heap.size w W) => rbare12_any o W (ho.below h))
  have HSB := hid (fun W => same12_any (bareO o) (bareO o) W (bareO_ok W ho) (bareO_ok W ho))
  rw [show sameO (bareO o) (bareO o) = true from sameO_self (bareO o) (bareO o).A (bareO o).c] at HSB
  have HFI := hid (fun (hsl : o.sacks.length ≤ 1000) W (h : Below w.heap.size w W) => fit12_any o W (ho.below h) hsl)
  have HRF := hid (fun (hsl : o.sacks.length ≤ 1000) W (h : Below w.heap.size w W) => rfit12_any o W (ho.below h) hsl)
  unfold FitRes at HFI HRF
  have HSF := hid (fun A c A' c' W (h1 : OptOk W { o with A := A, c := c, sacks := o.sacks.take (fitK o) }) (h2 : OptOk W { o with A := A', c := c', sacks := o.sacks.take (fitK o) }) => same12_any { o with A := A, c := c, sacks := o.sacks.take (fitK o) } { o with A := A', c := c', sacks := o.sacks.take (fitK o) } W h1 h2)
  have HSE := hid (fun A c A' c' => (show sameO { o with A := A, c := c, sacks := o.sacks.take (fitK o) } { o with A := A', c := c', sacks := o.sacks.take (fitK o) } = true from sameO_self { o with A := A, c := c, sacks := o.sacks.take (fitK o) } A' c'))
  have HI := hid (info_optsX o ho.mac)
  obtain ⟨f, hf⟩ : ∃ t, decide (500 < o.sacks.length) = t := ⟨_, rfl⟩
  rw [hf] at HF
  have HFF := hid hf
  clear hf
  generalize (bareO o).cells = cb at HBA HRB HSB
  generalize o.cells = co at HF HBA HRB HFI HRF HI ⊢
  have BB := hid (Below.refl w.heap.size w)
  obtain ⟨B, hB⟩ : ∃ x, w.heap.size = x := ⟨_, rfl⟩
  rw [hB] at BB
  have HB := hid hB
  have HST := hid (fun W (h : Below B w W) => show B ≤ W.heap.size by have := h.size; have := HB.out; omega)
  have ALIVE := hid (fun W (h : Below B w W) => (alive12_any W).mono (fun e w' (h' : e = .returned (.bool true) ∧ Below W.heap.size W w') => (⟨h'.1, h.trans (h'.2.mono (HST.out W h))⟩ : e = .returned (.bool true) ∧ Below B w w')))
  rw [hB] at HF HBA HRB HFI HRF
  clear hB ho
  go_enter Try.func7, Try.ntmps7
  go_wp2_with (first
    | ((with_reducible refine at_slot 1 ?_); refine wpList_boxF rfl 27 (.tmp 0) rfl co rfl ?_; intro w1 hx1 hb1 hz1; rw [HB.out] at hx1 hb1 hz1 ⊢; have X := hid hx1; replace BB := hid hb1; clear hx1 hb1 hz1)
    | ((with_reducible refine at_slot 3 ?_); refine wpList_rowG rfl 27 (.tmp 1) rfl B rfl _ co _ X.out Try.underlying27 rfl HI.out ?_))
  (with_reducible refine Calls.mono (HF.out _ BB.out) ?_)
  rintro e w2 ⟨rfl, hb2⟩
  replace X := hid ((hb2.block _ (Array.getElem?_eq_some_iff.1 X.out).1).trans X.out)
  replace BB := hid (BB.out.trans (hb2.mono (HST.out _ BB.out)))
  clear hb2
  cases f
  case true =>
    go_wp2_with fail
    (with_reducible refine Calls.mono (ALIVE.out _ BB.out) ?_)
    rintro e w3 ⟨rfl, hb3⟩
    have BF := hid hb3
    clear hb3
    go_wp2_with fail
    go_ret
    exact ⟨rfl, by rw [HB.out]; exact BF.out⟩
  have hsl : o.sacks.length ≤ 1000 := by have := of_decide_eq_false HFF.out; omega
  have HSL := hid hsl
  clear hsl
  go_upto_region 3 with fail
  have hS0 : ({ w2 with drawn := w2.drawn + 1 } : World).heap[B]? = some (.cells co 27 (0, 0)) := X.out
  refine wp_region_hand (fun W' => W'.heap[B]? = some (.cells co 27 (0, 0))) (by kernel_rfl) hS0 ?_
  intro hS
  have hb : Below B w ({ w2 with drawn := w2.drawn + 1 } : World) := below_drewN BB.out 1
  clear hS0 X BB
  generalize ({ w2 with drawn := w2.drawn + 1 } : World) = u at hS hb ⊢
  refine wpAnyH_take (i := 0) (oi := ⟨some 6, _, _, _, _, _⟩) rfl (by kernel_rfl) (by kernel_rfl) (by kernel_rfl) (fun _ _ _ h => h) (yields_row 27 (.tmp 1) rfl (by rfl) ⟨B, 0, none⟩ rfl co _ (fun W' hS' => cells_part hS' (o := 0) (fun j u h => by rw [Nat.zero_add]; exact h)) Try.underlying27 rfl HI.out) hS ?_
  try simp only [Act.put, List.setIfInBounds_toArray, List.set_cons_zero, List.set_cons_succ]
  refine wpAnyH_take (i := 2) (oi := ⟨some 8, _, _, _, _, _⟩) rfl (by kernel_rfl) (by kernel_rfl) (by kernel_rfl) (fun _ _ _ h => h) (yields_row 27 (.tmp 1) rfl (by rfl) ⟨B, 0, none⟩ rfl co _ (fun W' hS' => cells_part hS' (o := 0) (fun j u h => by rw [Nat.zero_add]; exact h)) Try.underlying27 rfl HI.out) hS ?_
  try simp only [Act.put, List.setIfInBounds_toArray, List.set_cons_zero, List.set_cons_succ]
  refine anyH_one (i := 1) (by kernel_rfl) ⟨some 7, _, _, _, _, _⟩ rfl (by rfl) ?_
  go_simp
  with_reducible refine Calls.mono (HBA.out _ hb) ?_
  rintro e u1 ⟨rfl, hb1⟩
  replace hS := (hb1.block _ (Array.getElem?_eq_some_iff.1 hS).1).trans hS
  replace hb := hb.trans (hb1.mono (HST.out _ hb))
  clear hb1
  refine ⟨hS, ?_⟩
  try simp only [Act.put, List.setIfInBounds_toArray, List.set_cons_zero, List.set_cons_succ]
  refine anyH_one (i := 3) (by kernel_rfl) ⟨some 9, _, _, _, _, _⟩ rfl (by rfl) ?_
  go_simp
  with_reducible refine Calls.mono (HRB.out _ hb) ?_
  rintro e u2 ⟨rfl, hb2⟩
  replace hS := (hb2.block _ (Array.getElem?_eq_some_iff.1 hS).1).trans hS
  replace hb := hb.trans (hb2.mono (HST.out _ hb))
  clear hb2
  refine ⟨hS, ?_⟩
  try simp only [Act.put, List.setIfInBounds_toArray, List.set_cons_zero, List.set_cons_succ]
  refine anyH_one (i := 4) (by kernel_rfl) ⟨some 10, _, _, _, _, _⟩ rfl (by rfl) ?_
  go_simp
  with_reducible refine Calls.mono (HSB.out _) ?_
  rintro e u3 ⟨rfl, hb3⟩
  replace hS := (hb3.block _ (Array.getElem?_eq_some_iff.1 hS).1).trans hS
  replace hb := hb.trans (hb3.mono (HST.out _ hb))
  clear hb3
  refine ⟨hS, ?_⟩
  try simp only [Act.put, List.setIfInBounds_toArray, List.set_cons_zero, List.set_cons_succ]
  refine wpAnyH_take (i := 5) (oi := ⟨some 11, _, _, _, _, _⟩) (v := ?_) rfl (by kernel_rfl) (by kernel_rfl) (by kernel_rfl) (fun _ _ _ h => h) (Or.inl ⟨by rfl, ?_⟩) hS ?_
  rotate_left 1
  focus ((intro W' hS'; go_simp) <;> with_reducible rfl)
  try simp only [Act.put, List.setIfInBounds_toArray, List.set_cons_zero, List.set_cons_succ]
  refine wpAnyH_take (i := 6) (oi := ⟨some 12, _, _, _, _, _⟩) rfl (by kernel_rfl) (by kernel_rfl) (by kernel_rfl) (fun _ _ _ h => h) (yields_row 27 (.tmp 1) rfl (by rfl) ⟨B, 0, none⟩ rfl co _ (fun W' hS' => cells_part hS' (o := 0) (fun j u h => by rw [Nat.zero_add]; exact h)) Try.underlying27 rfl HI.out) hS ?_
  try simp only [Act.put, List.setIfInBounds_toArray, List.set_cons_zero, List.set_cons_succ]
  refine wpAnyH_take (i := 8) (oi := ⟨some 14, _, _, _, _, _⟩) rfl (by kernel_rfl) (by kernel_rfl) (by kernel_rfl) (fun _ _ _ h => h) (yields_row 27 (.tmp 1) rfl (by rfl) ⟨B, 0, none⟩ rfl co _ (fun W' hS' => cells_part hS' (o := 0) (fun j u h => by rw [Nat.zero_add]; exact h)) Try.underlying27 rfl HI.out) hS ?_
  try simp only [Act.put, List.setIfInBounds_toArray, List.set_cons_zero, List.set_cons_succ]
  refine anyH_one (i := 7) (by kernel_rfl) ⟨some 13, _, _, _, _, _⟩ rfl (by rfl) ?_
  go_simp
  with_reducible refine Calls.mono (HFI.out HSL.out _ hb) ?_
  rintro e u4 ⟨A1, c1, rfl, ok1, hb4⟩
  replace hS := (hb4.block _ (Array.getElem?_eq_some_iff.1 hS).1).trans hS
  replace hb := hb.trans (hb4.mono (HST.out _ hb))
  clear hb4
  refine ⟨hS, ?_⟩
  try simp only [Act.put, List.setIfInBounds_toArray, List.set_cons_zero, List.set_cons_succ]
  refine anyH_one (i := 9) (by kernel_rfl) ⟨some 15, _, _, _, _, _⟩ rfl (by rfl) ?_
  go_simp
  with_reducible refine Calls.mono (HRF.out HSL.out _ hb) ?_
  rintro e u5 ⟨A2, c2, rfl, ok2, hb5⟩
  replace ok1 := ok1.below hb5
  replace hS := (hb5.block _ (Array.getElem?_eq_some_iff.1 hS).1).trans hS
  replace hb := hb.trans (hb5.mono (HST.out _ hb))
  clear hb5
  refine ⟨hS, ?_⟩
  try simp only [Act.put, List.setIfInBounds_toArray, List.set_cons_zero, List.set_cons_succ]
  refine anyH_one (i := 10) (by kernel_rfl) ⟨some 16, _, _, _, _, _⟩ rfl (by rfl) ?_
  go_simp
  with_reducible refine Calls.mono (HSF.out A1 c1 A2 c2 _ ok1 ok2) ?_
  rintro e u6 ⟨rfl, hb6⟩
  rw [HSE.out A1 c1 A2 c2]
  clear ok1 ok2
  replace hS := (hb6.block _ (Array.getElem?_eq_some_iff.1 hS).1).trans hS
  replace hb := hb.trans (hb6.mono (HST.out _ hb))
  clear hb6
  refine ⟨hS, ?_⟩
  try simp only [Act.put, List.setIfInBounds_toArray, List.set_cons_zero, List.set_cons_succ]
  refine wpAnyH_take (i := 11) (oi := ⟨some 17, _, _, _, _, _⟩) (v := ?_) rfl (by kernel_rfl) (by kernel_rfl) (by kernel_rfl) (fun _ _ _ h => h) (Or.inl ⟨by rfl, ?_⟩) hS ?_
  rotate_left 1
  focus ((intro W' hS'; go_simp) <;> with_reducible rfl)
  try simp only [Act.put, List.setIfInBounds_toArray, List.set_cons_zero, List.set_cons_succ]
  refine wpAnyH_take (i := 12) (oi := ⟨some 18, _, _, _, _, _⟩) (v := ?_) rfl (by kernel_rfl) (by kernel_rfl) (by kernel_rfl) (fun _ _ _ h => h) (Or.inl ⟨by rfl, ?_⟩) hS ?_
  rotate_left 1
  focus ((intro W' hS'; go_simp) <;> with_reducible rfl)
  try simp only [Act.put, List.setIfInBounds_toArray, List.set_cons_zero, List.set_cons_succ]
  refine anyH_one (i := 13) (by kernel_rfl) ⟨some 19, _, _, _, _, _⟩ rfl (by rfl) ?_
  go_simp
  with_reducible refine Calls.mono (alive12_any _) ?_
  rintro e u7 ⟨rfl, hb7⟩
  replace hS := (hb7.block _ (Array.getElem?_eq_some_iff.1 hS).1).trans hS
  replace hb := hb.trans (hb7.mono (HST.out _ hb))
  clear hb7
  refine ⟨hS, ?_⟩
  try simp only [Act.put, List.setIfInBounds_toArray, List.set_cons_zero, List.set_cons_succ]
  refine wpAnyH_take (i := 14) (oi := ⟨some 20, _, _, _, _, _⟩) (v := ?_) rfl (by kernel_rfl) (by kernel_rfl) (by kernel_rfl) (fun _ _ _ h => h) (Or.inl ⟨by rfl, ?_⟩) hS ?_
  rotate_left 1
  focus ((intro W' hS'; go_simp) <;> with_reducible rfl)
  try simp only [Act.put, List.setIfInBounds_toArray, List.set_cons_zero, List.set_cons_succ]
  refine wpAnyH_take (i := 15) (oi := ⟨some 2, _, _, _, _, _⟩) (v := ?_) rfl (by kernel_rfl) (by kernel_rfl) (by kernel_rfl) (fun _ _ _ h => h) (Or.inl ⟨by rfl, ?_⟩) hS ?_
  rotate_left 1
  focus ((intro W' hS'; go_simp) <;> with_reducible rfl)
  try simp only [Act.put, List.setIfInBounds_toArray, List.set_cons_zero, List.set_cons_succ]
  refine wpAnyH_done (by kernel_rfl) ?_ _
  go_wp2_with fail
  go_ret
  exact ⟨rfl, by rw [HB.out]; exact hb⟩
end Go.Proofs.Ythodepdgmcagjaa
