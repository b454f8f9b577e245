/- Walk: whether two options are the same, by the document. -/
import Derived.Test.YthnidgiogjehkaaOpt
import Derived.Test.YthnidgiogjehkaaArr12
import Derived.Test.YthnidgiogjehkaaQRow
import Derived.Test.YthnidgiogjehkaaChain
import Derived.Deep.Cut
import Derived.Test.YthnidgiogjehkaaBlk
namespace Go.Proofs.Ythnidgiogjehkaa
set_option linter.unusedVariables false
set_option linter.unusedSimpArgs false
set_option maxRecDepth 20000
open Go.RowKit

def sameO (a b : OptM) : Bool :=
  decide (a.sacks = b.sacks) && (a.hasMSS == b.hasMSS) && (a.mss == b.mss) && (a.hasScale == b.hasScale) && (a.scale == b.scale) && (a.sackOK == b.sackOK) && (a.hasTime == b.hasTime) && (a.val == b.val) && (a.echo == b.echo) && (a.hasAO == b.hasAO) && (a.key == b.key) && (a.next == b.next) && (a.mac == b.mac)
theorem u32_keyLits (z : Nat) (h : z < 4294967296) : Try.prog.keyLits 1 27 [.int .u32 (z : Int)] = some [.int .u32 (z : Int)] := by
  have hw : (Lit.int .u32 (z : Int)).wf = true := by
    simp [Lit.wf, IntKind.min, IntKind.max, IntKind.signed, IntKind.bits]
    omega
  have hu : Try.prog.underlying 27 = some (.int .u32) := Try.underlying27
  unfold Program.keyLits
  rw [hu]
  simp [hw]
theorem blk_keyLits (x y : Nat) (hx : x < 4294967296) (hy : y < 4294967296) : Try.prog.keyLits 2 84 [.int .u32 (x : Int), .int .u32 (y : Int)] = some [Lit.int .u32 (x : Int), Lit.int .u32 (y : Int)] := by
  have hu : ∃ fs, Try.prog.underlying 84 = some (.struct fs) ∧ fs.toList.map (fun f => (f.type, f.offset)) = [(27, 0), (27, 1)] ∧ fs.all (·.name != "_") = true := ⟨_, Try.underlying84, by kernel_rfl, by kernel_rfl⟩
  obtain ⟨fs, hu, hf, hn⟩ := hu
  have hc : Try.prog.cellsOf 84 = 2 := by kernel_rfl
  have h1 : Try.prog.cellsOf 27 = 1 := by kernel_rfl
  generalize hl : ([.int .u32 (x : Int), .int .u32 (y : Int)] : List Value) = l
  unfold Program.keyLits
  rw [hu]
  have hl2 : l.length = 2 := by rw [← hl]; rfl
  simp only [hc, hl2, hn, and_self, if_true]
  have hm : fs.toList.mapM (fun f => Try.prog.keyLits 1 f.type ((l.drop f.offset).take (Try.prog.cellsOf f.type))) = (fs.toList.map (fun f => (f.type, f.offset))).mapM (fun p => Try.prog.keyLits 1 p.1 ((l.drop p.2).take (Try.prog.cellsOf p.1))) := by
    rw [List.mapM_map]; rfl
  rw [hm, hf]
  have e1 : (l.drop 0).take 1 = [.int .u32 (x : Int)] := by rw [← hl]; rfl
  have e2 : (l.drop 1).take 1 = [.int .u32 (y : Int)] := by rw [← hl]; rfl
  simp only [List.mapM_cons, List.mapM_nil, h1, e1, e2, u32_keyLits x hx, u32_keyLits y hy]
  rfl
theorem blk_formed (x y : Int) (hx : 0 ≤ x ∧ x ≤ 4294967295) (hy : 0 ≤ y ∧ y ≤ 4294967295) : Value.formed Try.prog 84 (.agg #[.int .u32 x, .int .u32 y]) = true := by kernel_rfl
theorem neq_blk (x y x' y' : Nat) (hx : x < 4294967296 ∧ y < 4294967296) (hx' : x' < 4294967296 ∧ y' < 4294967296) (w : World) :
    (binOp .neq 84 (.agg #[.int .u32 (x : Int), .int .u32 (y : Int)]) (.agg #[.int .u32 (x' : Int), .int .u32 (y' : Int)])).run Try.prog w = .ok (.bool (!decide ((x, y) = (x', y')))) w := by
  have hk : Try.prog.keyTypeAt 2 84 = true := by kernel_rfl
  obtain ⟨r, hr, hiff⟩ := run_equalIn_deep 9998 2 84 hk w 2 2 (.agg #[.int .u32 (x : Int), .int .u32 (y : Int)]) (.agg #[.int .u32 (x' : Int), .int .u32 (y' : Int)]) _ _ (blk_formed _ _ ⟨by omega, by omega⟩ ⟨by omega, by omega⟩) (blk_formed _ _ ⟨by omega, by omega⟩ ⟨by omega, by omega⟩) (blk_keyLits x y hx.1 hx.2) (blk_keyLits x' y' hx'.1 hx'.2)
  rw [run_neq_struct, show (10000 : Nat) = 9998 + 2 by rfl, hr]
  have : r = decide ((x, y) = (x', y')) := by
    rw [Bool.eq_iff_iff, hiff, decide_eq_true_iff]
    constructor
    · intro h
      injection h with h1 h2
      injection h1 with _ h1
      injection h2 with h2 _
      injection h2 with _ h2
      exact Prod.ext (by show x = x'; omega) (by show y = y'; omega)
    · intro h
      injection h with h1 h2
      rw [h1, h2]
  rw [this]
  rfl
theorem int_beq (x y : Nat) : ((x : Int) == (y : Int)) = (x == y) := by rw [Bool.eq_iff_iff]; simp; omega
theorem take_next (l : List (Nat × Nat)) (k : Nat) (h : k < l.length) : l.take (k + 1) = l.take k ++ [l.getD k (0, 0)] := by
  rw [List.take_add_one]
  simp [List.getD_eq_getElem?_getD, List.getElem?_eq_getElem h]
set_option maxRecDepth 20000 in
set_option maxHeartbeats 4000000 in
theorem same12_any (a b : OptM) (w : World) (ha : OptOk w a) (hb : OptOk w b) :
    Calls Try.prog 38 #[.agg a.cells, .agg b.cells] w fun e w' => e = .returned (.bool (sameO a b)) ∧ Below w.heap.size w w' := by
  have HA := hid ha
  have HB := hid hb
  have hac := ha.row.cap
  have hat := ha.row.top
  have hbc := hb.row.cap
  have hbt := hb.row.top
  have H1 := hid fun (W : World) (g : Nat) (h : W.heap[g]? = some (.cells a.cells 31 (0, 0))) => opt_cells h
  have H2 := hid fun (W : World) (g : Nat) (h : W.heap[g]? = some (.cells b.cells 31 (0, 0))) => opt_cells h
  obtain ⟨r, hr⟩ : ∃ r, sameO a b = r := ⟨_, rfl⟩
  rw [hr]
  have HR := hid hr
  have M1 := hid (show ∀ (j : Nat) u, (arr8 a.mac)[j]? = some u → a.cells[12 + j]? = some u from fun j u h => a.mac_at j u (by simpa [arr8] using h))
  have M2 := hid (show ∀ (j : Nat) u, (arr8 b.mac)[j]? = some u → b.cells[12 + j]? = some u from fun j u h => b.mac_at j u (by simpa [arr8] using h))
  generalize a.cells = cs at H1 M1 ⊢
  generalize b.cells = ds at H2 M2 ⊢
  clear ha hb hr
  obtain ⟨A1, hA1⟩ : ∃ x, a.A = x := ⟨_, rfl⟩
  obtain ⟨A2, hA2⟩ : ∃ x, b.A = x := ⟨_, rfl⟩
  have hra := (HA.out).row
  have hrb := (HB.out).row
  rw [hA1] at H1 hra
  rw [hA2] at H2 hrb
  have HRA := hid hra
  have HRB := hid hrb
  have HOA := hid (HA.out).ok
  have HOB := hid (HB.out).ok
  have HML := hid (And.intro (HA.out).mac (HB.out).mac)
  obtain ⟨nl, hnl⟩ : ∃ n, a.sacks.length = n := ⟨_, rfl⟩
  obtain ⟨ml, hml⟩ : ∃ n, b.sacks.length = n := ⟨_, rfl⟩
  rw [hnl] at H1 HRA hac
  rw [hml] at H2 HRB hbc
  have HNL := hid hnl
  have HML2 := hid hml
  clear hA1 hA2 hra hrb HA HB hnl hml
  by_cases hlen : nl = ml
  · subst hlen
    go_enter Try.func38, Try.ntmps38
    go_wp2_with (first
      | ((with_reducible refine at_slot 2 ?_); refine wpList_boxF rfl 31 (.tmp 0) rfl cs rfl ?_; intro w1 hx1 hb1 hz1)
      | ((with_reducible refine at_slot 3 ?_); refine wpList_boxF rfl 31 (.tmp 1) rfl ds rfl ?_; intro w2 hx2 hb2 hz2; have hy1 := (hb2.block _ (by omega)).trans hx1; obtain ⟨e0, e1, e2, e3, e4, e5, e6, e7, e8, e9, e10, e11⟩ := H1.out w2 _ hy1; obtain ⟨f0, f1, f2, f3, f4, f5, f6, f7, f8, f9, f10, f11⟩ := H2.out w2 _ hx2; have HB1 := hid (hb1.trans (hb2.mono (by omega))); have HZ := hid (And.intro hz1 hz2); have HX1 := hid hy1; have HX2 := hid hx2; clear hx1 hx2 hb1 hb2 hz1 hz2 hy1))
    have hg1 : w.heap.size < w2.heap.size := (Array.getElem?_eq_some_iff.1 HX1.out).1
    have hg2 : w1.heap.size < w2.heap.size := (Array.getElem?_eq_some_iff.1 HX2.out).1
    have HW := hid (show w.heap.size ≤ w2.heap.size by omega)
    have HRA2 := hid (HRA.out.below HB1.out)
    have HRB2 := hid (HRB.out.below HB1.out)
    obtain ⟨g1, hgg1⟩ : ∃ g, w.heap.size = g := ⟨_, rfl⟩
    obtain ⟨g2, hgg2⟩ : ∃ g, w1.heap.size = g := ⟨_, rfl⟩
    rw [hgg1] at HX1 hg1 HW HB1 ⊢
    rw [hgg2] at HX2 hg2 ⊢
    have HGG := hid hgg1
    rw [hgg1] at e5
    rw [hgg2] at f5
    have E5 := hid e5
    have F5 := hid f5
    have HG1 := hid hg1
    have HG2 := hid hg2
    clear e0 e1 e2 e3 e4 e5 e6 e7 e8 e9 e10 e11 f0 f1 f2 f3 f4 f5 f6 f7 f8 f9 f10 f11 hgg1 hgg2 hg1 hg2 HRA HRB
    go_loopw [5] (fun i wr => ∃ k : Nat, k ≤ nl ∧ i = .int .i64 k ∧ a.sacks.take k = b.sacks.take k ∧ Below w2.heap.size w2 wr) (fun i _ => nl - (intOf i).toNat)
    case atStart => exact ⟨0, Nat.zero_le _, rfl, rfl, Below.refl _ _⟩
    case round =>
      obtain ⟨k, hk, rfl, htk, hb⟩ := hrel
      have E5' := keep_cell hb E5.out HG1.out
      have F5' := keep_cell hb F5.out HG2.out
      by_cases hlt : k < nl
      · have hra := HRA2.out.below hb
        have hrb := HRB2.out.below hb
        have hka : k < a.sacks.length := by have := HNL.out; omega
        have hkb : k < b.sacks.length := by have := HML2.out; omega
        obtain ⟨a1, rfl⟩ := hra.addr (by rw [bcs_length]; omega)
        obtain ⟨a2, rfl⟩ := hrb.addr (by rw [bcs_length]; omega)
        obtain ⟨l0, l1⟩ := hra.blk k hka
        obtain ⟨m0, m1⟩ := hrb.blk k hkb
        have hna := HOA.out.get k hka
        have hnb := HOB.out.get k hkb
        have HTA := hid (take_next a.sacks k hka)
        have HTB := hid (take_next b.sacks k hkb)
        have HNE := hid (fun (h : a.sacks.getD k (0, 0) ≠ b.sacks.getD k (0, 0)) (e : a.sacks = b.sacks) => h (by rw [e]))
        generalize a.sacks.getD k (0, 0) = xy at l0 l1 hna HTA HNE
        generalize b.sacks.getD k (0, 0) = zu at m0 m1 hnb HTB HNE
        obtain ⟨x, y⟩ := xy
        obtain ⟨z, u⟩ := zu
        simp only at l0 l1 m0 m1 hna hnb
        have hneq := fun W => neq_blk x y z u hna hnb W
        obtain ⟨t, ht⟩ : ∃ t, decide ((x, y) = (z, u)) = t := ⟨_, rfl⟩
        rw [ht] at hneq
        have HT := hid ht
        have HB := hid hb
        have HTK := hid htk
        have hkl : (k : Int) < (nl : Int) := by omega
        clear hra hrb hna hnb ht hb htk
        go_wp2_with fail
        refine wp_region_later wr.heap.size (Nat.le_refl _) (by kernel_rfl) (by kernel_rfl) ?_
        have q0 := fun x : Later wr.heap.size wr => x.cell E5' (World.block_lt_of_cell? _ _ E5')
        have q1 := fun x : Later wr.heap.size wr => x.cell F5' (World.block_lt_of_cell? _ _ F5')
        have q2 := fun x : Later wr.heap.size wr => x.cell l0 (World.block_lt_of_cell? _ _ l0)
        have q3 := fun x : Later wr.heap.size wr => x.cell l1 (World.block_lt_of_cell? _ _ l1)
        have q4 := fun x : Later wr.heap.size wr => x.cell m0 (World.block_lt_of_cell? _ _ m0)
        have q5 := fun x : Later wr.heap.size wr => x.cell m1 (World.block_lt_of_cell? _ _ m1)
        clear E5' F5' l0 l1 m0 m1
        repeat (go_big_quiet_step (first | fail))
        refine wpQuiet_nil ?_
        rintro _ ⟨lx, rfl⟩
        have HB2 := hid (HB.out.trans (lx.ok.mono HB.out.size))
        have HB3 := hid (HB1.out.trans (HB2.out.mono HW.out))
        clear q0 q1 q2 q3 q4 q5
        generalize lx.wd = W3 at HB2 HB3 ⊢
        cases t
        · have hr : r = false := by
            rw [← HR.out]
            unfold sameO
            have : decide (a.sacks = b.sacks) = false := decide_eq_false (HNE.out (of_decide_eq_false HT.out))
            rw [this]
            rfl
          have HR0 := hid hr
          clear hr
          go_wp2_with fail
          go_ret
          exact ⟨by rw [HR0.out]; rfl, HGG.out ▸ HB3.out⟩
        · go_wp2_with fail
          go_roundw
          case rel => exact ⟨k + 1, by omega, by go_num, by rw [HTA.out, HTB.out, HTK.out, of_decide_eq_true HT.out], HB2.out⟩
          case measure => simp [intOf]; omega
      · obtain rfl : k = nl := by omega
        have hse : a.sacks = b.sacks := by
          rw [List.take_of_length_le (by have := HNL.out; omega), List.take_of_length_le (by have := HML2.out; omega)] at htk
          exact htk
        have HSE := hid hse
        have hx1 := (hb.block _ HG1.out).trans HX1.out
        have hx2 := (hb.block _ HG2.out).trans HX2.out
        obtain ⟨e0, e1, e2, e3, e4, e5, e6, e7, e8, e9, e10, e11⟩ := H1.out wr g1 hx1
        obtain ⟨f0, f1, f2, f3, f4, f5, f6, f7, f8, f9, f10, f11⟩ := H2.out wr g2 hx2
        have HXa := hid hx1
        have HXb := hid hx2
        have HB3 := hid (HB1.out.trans (hb.mono HW.out))
        clear hse htk hb hx1 hx2
        obtain ⟨t0, ht0⟩ : ∃ t, (a.hasMSS == b.hasMSS) = t := ⟨_, rfl⟩
        have HT0 := hid ht0
        obtain ⟨t1, ht1⟩ : ∃ t, (a.mss == b.mss) = t := ⟨_, rfl⟩
        have HT1 := hid (show ((a.mss : Int) == (b.mss : Int)) = t1 by rw [← ht1]; exact int_beq _ _)
        obtain ⟨t2, ht2⟩ : ∃ t, (a.hasScale == b.hasScale) = t := ⟨_, rfl⟩
        have HT2 := hid ht2
        obtain ⟨t3, ht3⟩ : ∃ t, (a.scale == b.scale) = t := ⟨_, rfl⟩
        have HT3 := hid (show ((a.scale : Int) == (b.scale : Int)) = t3 by rw [← ht3]; exact int_beq _ _)
        obtain ⟨t4, ht4⟩ : ∃ t, (a.sackOK == b.sackOK) = t := ⟨_, rfl⟩
        have HT4 := hid ht4
        obtain ⟨t5, ht5⟩ : ∃ t, (a.hasTime == b.hasTime) = t := ⟨_, rfl⟩
        have HT5 := hid ht5
        obtain ⟨t6, ht6⟩ : ∃ t, (a.val == b.val) = t := ⟨_, rfl⟩
        have HT6 := hid (show ((a.val : Int) == (b.val : Int)) = t6 by rw [← ht6]; exact int_beq _ _)
        obtain ⟨t7, ht7⟩ : ∃ t, (a.echo == b.echo) = t := ⟨_, rfl⟩
        have HT7 := hid (show ((a.echo : Int) == (b.echo : Int)) = t7 by rw [← ht7]; exact int_beq _ _)
        obtain ⟨t8, ht8⟩ : ∃ t, (a.hasAO == b.hasAO) = t := ⟨_, rfl⟩
        have HT8 := hid ht8
        obtain ⟨t9, ht9⟩ : ∃ t, (a.key == b.key) = t := ⟨_, rfl⟩
        have HT9 := hid (show ((a.key : Int) == (b.key : Int)) = t9 by rw [← ht9]; exact int_beq _ _)
        obtain ⟨t10, ht10⟩ : ∃ t, (a.next == b.next) = t := ⟨_, rfl⟩
        have HT10 := hid (show ((a.next : Int) == (b.next : Int)) = t10 by rw [← ht10]; exact int_beq _ _)
        obtain ⟨t11, ht11⟩ : ∃ t, (a.mac == b.mac) = t := ⟨_, rfl⟩
        have HMC := hid (show decide (a.mac = b.mac) = t11 by rw [← ht11, Bool.eq_iff_iff]; simp)
        have HR2 := hid (show r = (t0 && t1 && t2 && t3 && t4 && t5 && t6 && t7 && t8 && t9 && t10 && t11) by rw [← HR.out, ← ht0, ← ht1, ← ht2, ← ht3, ← ht4, ← ht5, ← ht6, ← ht7, ← ht8, ← ht9, ← ht10, ← ht11]; unfold sameO; rw [decide_eq_true HSE.out, Bool.true_and])
        clear ht0 ht1 ht2 ht3 ht4 ht5 ht6 ht7 ht8 ht9 ht10 ht11
        go_upto_region 8 with fail
        refine wp_region_lit ?_
        refine wpList_pureG (v := .pointer (some ⟨g1, 0, none⟩)) (by kernel_rfl) (by kernel_rfl) ?_
        simp only [Act.put, List.setIfInBounds_toArray, List.set_cons_zero, List.set_cons_succ]
        refine wpList_pureG (by kernel_rfl) (exec_ld1 (.tmp 31) rfl ⟨g1, 0, none⟩ _ (by kernel_rfl) e0 (by intro w; kernel_rfl)) ?_
        simp only [Act.put, List.setIfInBounds_toArray, List.set_cons_zero, List.set_cons_succ]
        refine wpList_pureG (v := .pointer (some ⟨g2, 0, none⟩)) (by kernel_rfl) (by kernel_rfl) ?_
        simp only [Act.put, List.setIfInBounds_toArray, List.set_cons_zero, List.set_cons_succ]
        refine wpList_pureG (by kernel_rfl) (exec_ld1 (.tmp 33) rfl ⟨g2, 0, none⟩ _ (by kernel_rfl) f0 (by intro w; kernel_rfl)) ?_
        simp only [Act.put, List.setIfInBounds_toArray, List.set_cons_zero, List.set_cons_succ]
        refine wpList_pureG (by kernel_rfl) (exec_eqlB (.tmp 32) (.tmp 34) rfl a.hasMSS b.hasMSS t0 HT0.out Try.underlying4 (by kernel_rfl) (by kernel_rfl)) ?_
        simp only [Act.put, List.setIfInBounds_toArray, List.set_cons_zero, List.set_cons_succ]
        cases t0
        · refine wpList_tail 4 (.bool false) [] (by kernel_rfl) ?_
          intro a' h4 hd
          go_wp2_with fail
          refine bodyPost_ret (results_tmp rfl a'.tmps _ wr) hd ?_
          rw [h4]
          exact ⟨by rw [HR2.out]; simp, HGG.out ▸ HB3.out⟩
        refine wpList_pureG (v := .bool true) (by kernel_rfl) (by kernel_rfl) ?_
        simp only [Act.put, List.setIfInBounds_toArray, List.set_cons_zero, List.set_cons_succ]
        refine wpList_pureG (v := .pointer (some ⟨g1, 1, none⟩)) (by kernel_rfl) (by kernel_rfl) ?_
        simp only [Act.put, List.setIfInBounds_toArray, List.set_cons_zero, List.set_cons_succ]
        refine wpList_pureG (by kernel_rfl) (exec_ld1 (.tmp 37) rfl ⟨g1, 1, none⟩ _ (by kernel_rfl) e1 (by intro w; kernel_rfl)) ?_
        simp only [Act.put, List.setIfInBounds_toArray, List.set_cons_zero, List.set_cons_succ]
        refine wpList_pureG (v := .pointer (some ⟨g2, 1, none⟩)) (by kernel_rfl) (by kernel_rfl) ?_
        simp only [Act.put, List.setIfInBounds_toArray, List.set_cons_zero, List.set_cons_succ]
        refine wpList_pureG (by kernel_rfl) (exec_ld1 (.tmp 39) rfl ⟨g2, 1, none⟩ _ (by kernel_rfl) f1 (by intro w; kernel_rfl)) ?_
        simp only [Act.put, List.setIfInBounds_toArray, List.set_cons_zero, List.set_cons_succ]
        refine wpList_pureG (by kernel_rfl) (exec_eqlI (.tmp 38) (.tmp 40) rfl .u16 (a.mss : Int) (b.mss : Int) t1 HT1.out (by kernel_rfl) (by kernel_rfl)) ?_
        simp only [Act.put, List.setIfInBounds_toArray, List.set_cons_zero, List.set_cons_succ]
        cases t1
        · refine wpList_tail 4 (.bool false) [] (by kernel_rfl) ?_
          intro a' h4 hd
          go_wp2_with fail
          refine bodyPost_ret (results_tmp rfl a'.tmps _ wr) hd ?_
          rw [h4]
          exact ⟨by rw [HR2.out]; simp, HGG.out ▸ HB3.out⟩
        refine wpList_pureG (v := .bool true) (by kernel_rfl) (by kernel_rfl) ?_
        simp only [Act.put, List.setIfInBounds_toArray, List.set_cons_zero, List.set_cons_succ]
        refine wpList_pureG (v := .bool true) (by kernel_rfl) (by kernel_rfl) ?_
        simp only [Act.put, List.setIfInBounds_toArray, List.set_cons_zero, List.set_cons_succ]
        refine wpList_pureG (v := .pointer (some ⟨g1, 2, none⟩)) (by kernel_rfl) (by kernel_rfl) ?_
        simp only [Act.put, List.setIfInBounds_toArray, List.set_cons_zero, List.set_cons_succ]
        refine wpList_pureG (by kernel_rfl) (exec_ld1 (.tmp 44) rfl ⟨g1, 2, none⟩ _ (by kernel_rfl) e2 (by intro w; kernel_rfl)) ?_
        simp only [Act.put, List.setIfInBounds_toArray, List.set_cons_zero, List.set_cons_succ]
        refine wpList_pureG (v := .pointer (some ⟨g2, 2, none⟩)) (by kernel_rfl) (by kernel_rfl) ?_
        simp only [Act.put, List.setIfInBounds_toArray, List.set_cons_zero, List.set_cons_succ]
        refine wpList_pureG (by kernel_rfl) (exec_ld1 (.tmp 46) rfl ⟨g2, 2, none⟩ _ (by kernel_rfl) f2 (by intro w; kernel_rfl)) ?_
        simp only [Act.put, List.setIfInBounds_toArray, List.set_cons_zero, List.set_cons_succ]
        refine wpList_pureG (by kernel_rfl) (exec_eqlB (.tmp 45) (.tmp 47) rfl a.hasScale b.hasScale t2 HT2.out Try.underlying4 (by kernel_rfl) (by kernel_rfl)) ?_
        simp only [Act.put, List.setIfInBounds_toArray, List.set_cons_zero, List.set_cons_succ]
        cases t2
        · refine wpList_tail 4 (.bool false) [] (by kernel_rfl) ?_
          intro a' h4 hd
          go_wp2_with fail
          refine bodyPost_ret (results_tmp rfl a'.tmps _ wr) hd ?_
          rw [h4]
          exact ⟨by rw [HR2.out]; simp, HGG.out ▸ HB3.out⟩
        refine wpList_pureG (v := .bool true) (by kernel_rfl) (by kernel_rfl) ?_
        simp only [Act.put, List.setIfInBounds_toArray, List.set_cons_zero, List.set_cons_succ]
        refine wpList_pureG (v := .bool true) (by kernel_rfl) (by kernel_rfl) ?_
        simp only [Act.put, List.setIfInBounds_toArray, List.set_cons_zero, List.set_cons_succ]
        refine wpList_pureG (v := .pointer (some ⟨g1, 3, none⟩)) (by kernel_rfl) (by kernel_rfl) ?_
        simp only [Act.put, List.setIfInBounds_toArray, List.set_cons_zero, List.set_cons_succ]
        refine wpList_pureG (by kernel_rfl) (exec_ld1 (.tmp 51) rfl ⟨g1, 3, none⟩ _ (by kernel_rfl) e3 (by intro w; kernel_rfl)) ?_
        simp only [Act.put, List.setIfInBounds_toArray, List.set_cons_zero, List.set_cons_succ]
        refine wpList_pureG (v := .pointer (some ⟨g2, 3, none⟩)) (by kernel_rfl) (by kernel_rfl) ?_
        simp only [Act.put, List.setIfInBounds_toArray, List.set_cons_zero, List.set_cons_succ]
        refine wpList_pureG (by kernel_rfl) (exec_ld1 (.tmp 53) rfl ⟨g2, 3, none⟩ _ (by kernel_rfl) f3 (by intro w; kernel_rfl)) ?_
        simp only [Act.put, List.setIfInBounds_toArray, List.set_cons_zero, List.set_cons_succ]
        refine wpList_pureG (by kernel_rfl) (exec_eqlI (.tmp 52) (.tmp 54) rfl .u8 (a.scale : Int) (b.scale : Int) t3 HT3.out (by kernel_rfl) (by kernel_rfl)) ?_
        simp only [Act.put, List.setIfInBounds_toArray, List.set_cons_zero, List.set_cons_succ]
        cases t3
        · refine wpList_tail 4 (.bool false) [] (by kernel_rfl) ?_
          intro a' h4 hd
          go_wp2_with fail
          refine bodyPost_ret (results_tmp rfl a'.tmps _ wr) hd ?_
          rw [h4]
          exact ⟨by rw [HR2.out]; simp, HGG.out ▸ HB3.out⟩
        refine wpList_pureG (v := .bool true) (by kernel_rfl) (by kernel_rfl) ?_
        simp only [Act.put, List.setIfInBounds_toArray, List.set_cons_zero, List.set_cons_succ]
        refine wpList_pureG (v := .bool true) (by kernel_rfl) (by kernel_rfl) ?_
        simp only [Act.put, List.setIfInBounds_toArray, List.set_cons_zero, List.set_cons_succ]
        refine wpList_pureG (v := .pointer (some ⟨g1, 4, none⟩)) (by kernel_rfl) (by kernel_rfl) ?_
        simp only [Act.put, List.setIfInBounds_toArray, List.set_cons_zero, List.set_cons_succ]
        refine wpList_pureG (by kernel_rfl) (exec_ld1 (.tmp 58) rfl ⟨g1, 4, none⟩ _ (by kernel_rfl) e4 (by intro w; kernel_rfl)) ?_
        simp only [Act.put, List.setIfInBounds_toArray, List.set_cons_zero, List.set_cons_succ]
        refine wpList_pureG (v := .pointer (some ⟨g2, 4, none⟩)) (by kernel_rfl) (by kernel_rfl) ?_
        simp only [Act.put, List.setIfInBounds_toArray, List.set_cons_zero, List.set_cons_succ]
        refine wpList_pureG (by kernel_rfl) (exec_ld1 (.tmp 60) rfl ⟨g2, 4, none⟩ _ (by kernel_rfl) f4 (by intro w; kernel_rfl)) ?_
        simp only [Act.put, List.setIfInBounds_toArray, List.set_cons_zero, List.set_cons_succ]
        refine wpList_pureG (by kernel_rfl) (exec_eqlB (.tmp 59) (.tmp 61) rfl a.sackOK b.sackOK t4 HT4.out Try.underlying4 (by kernel_rfl) (by kernel_rfl)) ?_
        simp only [Act.put, List.setIfInBounds_toArray, List.set_cons_zero, List.set_cons_succ]
        cases t4
        · refine wpList_tail 4 (.bool false) [] (by kernel_rfl) ?_
          intro a' h4 hd
          go_wp2_with fail
          refine bodyPost_ret (results_tmp rfl a'.tmps _ wr) hd ?_
          rw [h4]
          exact ⟨by rw [HR2.out]; simp, HGG.out ▸ HB3.out⟩
        refine wpList_pureG (v := .bool true) (by kernel_rfl) (by kernel_rfl) ?_
        simp only [Act.put, List.setIfInBounds_toArray, List.set_cons_zero, List.set_cons_succ]
        refine wpList_pureG (v := .bool true) (by kernel_rfl) (by kernel_rfl) ?_
        simp only [Act.put, List.setIfInBounds_toArray, List.set_cons_zero, List.set_cons_succ]
        refine wpList_pureG (v := .pointer (some ⟨g1, 6, none⟩)) (by kernel_rfl) (by kernel_rfl) ?_
        simp only [Act.put, List.setIfInBounds_toArray, List.set_cons_zero, List.set_cons_succ]
        refine wpList_pureG (by kernel_rfl) (exec_ld1 (.tmp 65) rfl ⟨g1, 6, none⟩ _ (by kernel_rfl) e6 (by intro w; kernel_rfl)) ?_
        simp only [Act.put, List.setIfInBounds_toArray, List.set_cons_zero, List.set_cons_succ]
        refine wpList_pureG (v := .pointer (some ⟨g2, 6, none⟩)) (by kernel_rfl) (by kernel_rfl) ?_
        simp only [Act.put, List.setIfInBounds_toArray, List.set_cons_zero, List.set_cons_succ]
        refine wpList_pureG (by kernel_rfl) (exec_ld1 (.tmp 67) rfl ⟨g2, 6, none⟩ _ (by kernel_rfl) f6 (by intro w; kernel_rfl)) ?_
        simp only [Act.put, List.setIfInBounds_toArray, List.set_cons_zero, List.set_cons_succ]
        refine wpList_pureG (by kernel_rfl) (exec_eqlB (.tmp 66) (.tmp 68) rfl a.hasTime b.hasTime t5 HT5.out Try.underlying4 (by kernel_rfl) (by kernel_rfl)) ?_
        simp only [Act.put, List.setIfInBounds_toArray, List.set_cons_zero, List.set_cons_succ]
        cases t5
        · refine wpList_tail 4 (.bool false) [] (by kernel_rfl) ?_
          intro a' h4 hd
          go_wp2_with fail
          refine bodyPost_ret (results_tmp rfl a'.tmps _ wr) hd ?_
          rw [h4]
          exact ⟨by rw [HR2.out]; simp, HGG.out ▸ HB3.out⟩
        refine wpList_pureG (v := .bool true) (by kernel_rfl) (by kernel_rfl) ?_
        simp only [Act.put, List.setIfInBounds_toArray, List.set_cons_zero, List.set_cons_succ]
        refine wpList_pureG (v := .bool true) (by kernel_rfl) (by kernel_rfl) ?_
        simp only [Act.put, List.setIfInBounds_toArray, List.set_cons_zero, List.set_cons_succ]
        refine wpList_pureG (v := .pointer (some ⟨g1, 7, none⟩)) (by kernel_rfl) (by kernel_rfl) ?_
        simp only [Act.put, List.setIfInBounds_toArray, List.set_cons_zero, List.set_cons_succ]
        refine wpList_pureG (by kernel_rfl) (exec_ld1 (.tmp 72) rfl ⟨g1, 7, none⟩ _ (by kernel_rfl) e7 (by intro w; kernel_rfl)) ?_
        simp only [Act.put, List.setIfInBounds_toArray, List.set_cons_zero, List.set_cons_succ]
        refine wpList_pureG (v := .pointer (some ⟨g2, 7, none⟩)) (by kernel_rfl) (by kernel_rfl) ?_
        simp only [Act.put, List.setIfInBounds_toArray, List.set_cons_zero, List.set_cons_succ]
        refine wpList_pureG (by kernel_rfl) (exec_ld1 (.tmp 74) rfl ⟨g2, 7, none⟩ _ (by kernel_rfl) f7 (by intro w; kernel_rfl)) ?_
        simp only [Act.put, List.setIfInBounds_toArray, List.set_cons_zero, List.set_cons_succ]
        refine wpList_pureG (by kernel_rfl) (exec_eqlI (.tmp 73) (.tmp 75) rfl .u32 (a.val : Int) (b.val : Int) t6 HT6.out (by kernel_rfl) (by kernel_rfl)) ?_
        simp only [Act.put, List.setIfInBounds_toArray, List.set_cons_zero, List.set_cons_succ]
        cases t6
        · refine wpList_tail 4 (.bool false) [] (by kernel_rfl) ?_
          intro a' h4 hd
          go_wp2_with fail
          refine bodyPost_ret (results_tmp rfl a'.tmps _ wr) hd ?_
          rw [h4]
          exact ⟨by rw [HR2.out]; simp, HGG.out ▸ HB3.out⟩
        refine wpList_pureG (v := .bool true) (by kernel_rfl) (by kernel_rfl) ?_
        simp only [Act.put, List.setIfInBounds_toArray, List.set_cons_zero, List.set_cons_succ]
        refine wpList_pureG (v := .bool true) (by kernel_rfl) (by kernel_rfl) ?_
        simp only [Act.put, List.setIfInBounds_toArray, List.set_cons_zero, List.set_cons_succ]
        refine wpList_pureG (v := .pointer (some ⟨g1, 8, none⟩)) (by kernel_rfl) (by kernel_rfl) ?_
        simp only [Act.put, List.setIfInBounds_toArray, List.set_cons_zero, List.set_cons_succ]
        refine wpList_pureG (by kernel_rfl) (exec_ld1 (.tmp 79) rfl ⟨g1, 8, none⟩ _ (by kernel_rfl) e8 (by intro w; kernel_rfl)) ?_
        simp only [Act.put, List.setIfInBounds_toArray, List.set_cons_zero, List.set_cons_succ]
        refine wpList_pureG (v := .pointer (some ⟨g2, 8, none⟩)) (by kernel_rfl) (by kernel_rfl) ?_
        simp only [Act.put, List.setIfInBounds_toArray, List.set_cons_zero, List.set_cons_succ]
        refine wpList_pureG (by kernel_rfl) (exec_ld1 (.tmp 81) rfl ⟨g2, 8, none⟩ _ (by kernel_rfl) f8 (by intro w; kernel_rfl)) ?_
        simp only [Act.put, List.setIfInBounds_toArray, List.set_cons_zero, List.set_cons_succ]
        refine wpList_pureG (by kernel_rfl) (exec_eqlI (.tmp 80) (.tmp 82) rfl .u32 (a.echo : Int) (b.echo : Int) t7 HT7.out (by kernel_rfl) (by kernel_rfl)) ?_
        simp only [Act.put, List.setIfInBounds_toArray, List.set_cons_zero, List.set_cons_succ]
        cases t7
        · refine wpList_tail 4 (.bool false) [] (by kernel_rfl) ?_
          intro a' h4 hd
          go_wp2_with fail
          refine bodyPost_ret (results_tmp rfl a'.tmps _ wr) hd ?_
          rw [h4]
          exact ⟨by rw [HR2.out]; simp, HGG.out ▸ HB3.out⟩
        refine wpList_pureG (v := .bool true) (by kernel_rfl) (by kernel_rfl) ?_
        simp only [Act.put, List.setIfInBounds_toArray, List.set_cons_zero, List.set_cons_succ]
        refine wpList_pureG (v := .bool true) (by kernel_rfl) (by kernel_rfl) ?_
        simp only [Act.put, List.setIfInBounds_toArray, List.set_cons_zero, List.set_cons_succ]
        refine wpList_pureG (v := .pointer (some ⟨g1, 9, none⟩)) (by kernel_rfl) (by kernel_rfl) ?_
        simp only [Act.put, List.setIfInBounds_toArray, List.set_cons_zero, List.set_cons_succ]
        refine wpList_pureG (by kernel_rfl) (exec_ld1 (.tmp 86) rfl ⟨g1, 9, none⟩ _ (by kernel_rfl) e9 (by intro w; kernel_rfl)) ?_
        simp only [Act.put, List.setIfInBounds_toArray, List.set_cons_zero, List.set_cons_succ]
        refine wpList_pureG (v := .pointer (some ⟨g2, 9, none⟩)) (by kernel_rfl) (by kernel_rfl) ?_
        simp only [Act.put, List.setIfInBounds_toArray, List.set_cons_zero, List.set_cons_succ]
        refine wpList_pureG (by kernel_rfl) (exec_ld1 (.tmp 88) rfl ⟨g2, 9, none⟩ _ (by kernel_rfl) f9 (by intro w; kernel_rfl)) ?_
        simp only [Act.put, List.setIfInBounds_toArray, List.set_cons_zero, List.set_cons_succ]
        refine wpList_pureG (by kernel_rfl) (exec_eqlB (.tmp 87) (.tmp 89) rfl a.hasAO b.hasAO t8 HT8.out Try.underlying4 (by kernel_rfl) (by kernel_rfl)) ?_
        simp only [Act.put, List.setIfInBounds_toArray, List.set_cons_zero, List.set_cons_succ]
        cases t8
        · refine wpList_tail 4 (.bool false) [] (by kernel_rfl) ?_
          intro a' h4 hd
          go_wp2_with fail
          refine bodyPost_ret (results_tmp rfl a'.tmps _ wr) hd ?_
          rw [h4]
          exact ⟨by rw [HR2.out]; simp, HGG.out ▸ HB3.out⟩
        refine wpList_pureG (v := .bool true) (by kernel_rfl) (by kernel_rfl) ?_
        simp only [Act.put, List.setIfInBounds_toArray, List.set_cons_zero, List.set_cons_succ]
        refine wpList_pureG (v := .bool true) (by kernel_rfl) (by kernel_rfl) ?_
        simp only [Act.put, List.setIfInBounds_toArray, List.set_cons_zero, List.set_cons_succ]
        refine wpList_pureG (v := .pointer (some ⟨g1, 10, none⟩)) (by kernel_rfl) (by kernel_rfl) ?_
        simp only [Act.put, List.setIfInBounds_toArray, List.set_cons_zero, List.set_cons_succ]
        refine wpList_pureG (by kernel_rfl) (exec_ld1 (.tmp 93) rfl ⟨g1, 10, none⟩ _ (by kernel_rfl) e10 (by intro w; kernel_rfl)) ?_
        simp only [Act.put, List.setIfInBounds_toArray, List.set_cons_zero, List.set_cons_succ]
        refine wpList_pureG (v := .pointer (some ⟨g2, 10, none⟩)) (by kernel_rfl) (by kernel_rfl) ?_
        simp only [Act.put, List.setIfInBounds_toArray, List.set_cons_zero, List.set_cons_succ]
        refine wpList_pureG (by kernel_rfl) (exec_ld1 (.tmp 95) rfl ⟨g2, 10, none⟩ _ (by kernel_rfl) f10 (by intro w; kernel_rfl)) ?_
        simp only [Act.put, List.setIfInBounds_toArray, List.set_cons_zero, List.set_cons_succ]
        refine wpList_pureG (by kernel_rfl) (exec_eqlI (.tmp 94) (.tmp 96) rfl .u8 (a.key : Int) (b.key : Int) t9 HT9.out (by kernel_rfl) (by kernel_rfl)) ?_
        simp only [Act.put, List.setIfInBounds_toArray, List.set_cons_zero, List.set_cons_succ]
        cases t9
        · refine wpList_tail 4 (.bool false) [] (by kernel_rfl) ?_
          intro a' h4 hd
          go_wp2_with fail
          refine bodyPost_ret (results_tmp rfl a'.tmps _ wr) hd ?_
          rw [h4]
          exact ⟨by rw [HR2.out]; simp, HGG.out ▸ HB3.out⟩
        refine wpList_pureG (v := .bool true) (by kernel_rfl) (by kernel_rfl) ?_
        simp only [Act.put, List.setIfInBounds_toArray, List.set_cons_zero, List.set_cons_succ]
        refine wpList_pureG (v := .bool true) (by kernel_rfl) (by kernel_rfl) ?_
        simp only [Act.put, List.setIfInBounds_toArray, List.set_cons_zero, List.set_cons_succ]
        refine wpList_pureG (v := .pointer (some ⟨g1, 11, none⟩)) (by kernel_rfl) (by kernel_rfl) ?_
        simp only [Act.put, List.setIfInBounds_toArray, List.set_cons_zero, List.set_cons_succ]
        refine wpList_pureG (by kernel_rfl) (exec_ld1 (.tmp 100) rfl ⟨g1, 11, none⟩ _ (by kernel_rfl) e11 (by intro w; kernel_rfl)) ?_
        simp only [Act.put, List.setIfInBounds_toArray, List.set_cons_zero, List.set_cons_succ]
        refine wpList_pureG (v := .pointer (some ⟨g2, 11, none⟩)) (by kernel_rfl) (by kernel_rfl) ?_
        simp only [Act.put, List.setIfInBounds_toArray, List.set_cons_zero, List.set_cons_succ]
        refine wpList_pureG (by kernel_rfl) (exec_ld1 (.tmp 102) rfl ⟨g2, 11, none⟩ _ (by kernel_rfl) f11 (by intro w; kernel_rfl)) ?_
        simp only [Act.put, List.setIfInBounds_toArray, List.set_cons_zero, List.set_cons_succ]
        refine wpList_pureG (by kernel_rfl) (exec_eqlI (.tmp 101) (.tmp 103) rfl .u8 (a.next : Int) (b.next : Int) t10 HT10.out (by kernel_rfl) (by kernel_rfl)) ?_
        simp only [Act.put, List.setIfInBounds_toArray, List.set_cons_zero, List.set_cons_succ]
        cases t10
        · refine wpList_tail 4 (.bool false) [] (by kernel_rfl) ?_
          intro a' h4 hd
          go_wp2_with fail
          refine bodyPost_ret (results_tmp rfl a'.tmps _ wr) hd ?_
          rw [h4]
          exact ⟨by rw [HR2.out]; simp, HGG.out ▸ HB3.out⟩
        refine wpList_pureG (v := .bool true) (by kernel_rfl) (by kernel_rfl) ?_
        simp only [Act.put, List.setIfInBounds_toArray, List.set_cons_zero, List.set_cons_succ]
        refine wpList_pureG (v := .bool true) (by kernel_rfl) (by kernel_rfl) ?_
        simp only [Act.put, List.setIfInBounds_toArray, List.set_cons_zero, List.set_cons_succ]
        refine wpList_pureG (v := .pointer (some ⟨g1, 12, none⟩)) (by kernel_rfl) (by kernel_rfl) ?_
        simp only [Act.put, List.setIfInBounds_toArray, List.set_cons_zero, List.set_cons_succ]
        refine wpList_pureG (by kernel_rfl) (exec_loadAt 29 (.tmp 107) rfl ⟨g1, 12, none⟩ (by kernel_rfl) (arr8 a.mac) _ (cells_part HXa.out M1.out) Try.underlying29 rfl (info_12 _ HML.out.1)) ?_
        simp only [Act.put, List.setIfInBounds_toArray, List.set_cons_zero, List.set_cons_succ]
        refine wpList_pureG (v := .pointer (some ⟨g2, 12, none⟩)) (by kernel_rfl) (by kernel_rfl) ?_
        simp only [Act.put, List.setIfInBounds_toArray, List.set_cons_zero, List.set_cons_succ]
        refine wpList_pureG (by kernel_rfl) (exec_loadAt 29 (.tmp 109) rfl ⟨g2, 12, none⟩ (by kernel_rfl) (arr8 b.mac) _ (cells_part HXb.out M2.out) Try.underlying29 rfl (info_12 _ HML.out.2)) ?_
        simp only [Act.put, List.setIfInBounds_toArray, List.set_cons_zero, List.set_cons_succ]
        refine wpList_pureG (by kernel_rfl) ((exec_eql12 (.tmp 108) (.tmp 110) rfl a.mac b.mac HML.out.1 HML.out.2 (by kernel_rfl) (by kernel_rfl)).trans (by rw [HMC.out])) ?_
        simp only [Act.put, List.setIfInBounds_toArray, List.set_cons_zero, List.set_cons_succ]
        cases t11
        · refine wpList_tail 4 (.bool false) [] (by kernel_rfl) ?_
          intro a' h4 hd
          go_wp2_with fail
          refine bodyPost_ret (results_tmp rfl a'.tmps _ wr) hd ?_
          rw [h4]
          exact ⟨by rw [HR2.out]; simp, HGG.out ▸ HB3.out⟩
        refine wpList_tail 4 (.bool true) [] (by kernel_rfl) ?_
        intro a' h4 hd
        go_wp2_with fail
        refine bodyPost_ret (results_tmp rfl a'.tmps _ wr) hd ?_
        rw [h4]
        exact ⟨by rw [HR2.out]; simp, HGG.out ▸ HB3.out⟩
  · have hn1 : ((nl : Int) != (ml : Int)) = true := by simp; omega
    have hr : r = false := by
      rw [← HR.out]
      unfold sameO
      have : decide (a.sacks = b.sacks) = false := decide_eq_false (fun h => hlen (by rw [← HNL.out, ← HML2.out, h]))
      rw [this]
      rfl
    have HR0 := hid hr
    clear hr hlen
    go_enter Try.func38, Try.ntmps38
    go_wp2_with (first
      | ((with_reducible refine at_slot 2 ?_); refine wpList_boxF rfl 31 (.tmp 0) rfl cs rfl ?_; intro w1 hx1 hb1 hz1)
      | ((with_reducible refine at_slot 3 ?_); refine wpList_boxF rfl 31 (.tmp 1) rfl ds rfl ?_; intro w2 hx2 hb2 hz2; have hy1 := (hb2.block _ (by omega)).trans hx1; obtain ⟨e0, e1, e2, e3, e4, e5, e6, e7, e8, e9, e10, e11⟩ := H1.out w2 _ hy1; obtain ⟨f0, f1, f2, f3, f4, f5, f6, f7, f8, f9, f10, f11⟩ := H2.out w2 _ hx2; have HB1 := hid (hb1.trans (hb2.mono (by omega))); have HZ := hid (And.intro hz1 hz2); have HX1 := hid hy1; have HX2 := hid hx2; clear hx1 hx2 hb1 hb2 hz1 hz2 hy1))
    go_ret
    exact ⟨by rw [HR0.out]; rfl, HB1.out⟩
end Go.Proofs.Ythnidgiogjehkaa
