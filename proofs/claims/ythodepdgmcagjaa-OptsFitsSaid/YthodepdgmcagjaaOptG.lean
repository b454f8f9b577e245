/- Walk: the law Fits of layer 12. -/
import Derived.Test.YthodepdgmcagjaaOptF
namespace Go.Proofs.Ythodepdgmcagjaa
set_option linter.unusedVariables false
set_option linter.unusedSimpArgs false
open Go.RowKit

def may0 (o : OptM) : Bool := !may1 o && !may2 o && !may3 o
theorem may_sacks (o : OptM) (hm : o.mac.length = 12) (A : Option Addr) (c : Nat) (ss : List (Nat × Nat)) : mayO { o with A := A, c := c, sacks := ss } = (may0 o && (decide (ss.length ≤ 4) && decide (sizeO { o with sacks := ss } ≤ 40))) := by
  rw [may_parts { o with A := A, c := c, sacks := ss } hm]
  rfl
theorem fitN_fits (o : OptM) : ∀ n, 0 < fitN o n → sizeO { o with sacks := o.sacks.take (fitN o n) } ≤ 40
  | 0, h => absurd h (by unfold fitN; omega)
  | n + 1, h => by
    by_cases hs : sizeO { o with sacks := o.sacks.take (n + 1) } ≤ 40
    · rw [fitN_yes o (n + 1) hs]
      exact hs
    · rw [fitN_no o n hs] at h ⊢
      exact fitN_fits o n h
theorem fitN_max (o : OptM) : ∀ n m, fitN o n < m → m ≤ n → ¬ sizeO { o with sacks := o.sacks.take m } ≤ 40
  | 0, m, h, hm => by omega
  | n + 1, m, h, hm => by
    by_cases hs : sizeO { o with sacks := o.sacks.take (n + 1) } ≤ 40
    · rw [fitN_yes o (n + 1) hs] at h
      omega
    · rcases Nat.lt_or_ge n m with h1 | h1
      · obtain rfl : m = n + 1 := by omega
        exact hs
      · rw [fitN_no o n hs] at h
        exact fitN_max o n m h h1
theorem fitK_le (o : OptM) : fitK o ≤ o.sacks.length ∧ fitK o ≤ 4 := by
  have := fitN_le o (min o.sacks.length 4)
  unfold fitK
  omega
/-- What fits may be, if it may but for its Sacks. -/
theorem fit_may (o : OptM) (hm : o.mac.length = 12) (h : mayO { o with A := none, c := 0, sacks := [] } = true) (A : Option Addr) (c : Nat) : mayO { o with A := A, c := c, sacks := o.sacks.take (fitK o) } = true := by
  rw [may_sacks o hm] at h ⊢
  simp only [Bool.and_eq_true, decide_eq_true_eq] at h ⊢
  have hk := fitK_le o
  refine ⟨h.1, by rw [List.length_take]; omega, ?_⟩
  rcases Nat.eq_zero_or_pos (fitK o) with h0 | h0
  · rw [h0]
    exact h.2.2
  · exact fitN_fits o _ h0
/-- No further one would. -/
theorem fit_more (o : OptM) (hm : o.mac.length = 12) (hl : fitK o < o.sacks.length) (A : Option Addr) (c : Nat) : mayO { o with A := A, c := c, sacks := o.sacks.take (fitK o + 1) } = false := by
  rw [may_sacks o hm]
  by_cases h4 : fitK o = 4
  · have : decide ((o.sacks.take (fitK o + 1)).length ≤ 4) = false := by rw [decide_eq_false_iff_not, List.length_take]; omega
    rw [this, Bool.false_and, Bool.and_false]
  · have hk := fitK_le o
    have := fitN_max o (min o.sacks.length 4) (fitK o + 1) (by unfold fitK; omega) (by omega)
    rw [decide_eq_false this, Bool.and_false, Bool.and_false]
set_option maxRecDepth 20000 in
set_option maxHeartbeats 8000000 in
theorem lawFits12_any (o : OptM) (w : World) (ho : OptOk w o) : Calls Try.prog 6 #[.agg o.cells] w fun e w' => e = .returned (.bool true) ∧ Below w.heap.size w w' := by
  have HF := hid (fun W (h : Below w.heap.size w W) => far12_any o W (ho.below h))
  have HFI := hid (fun (hsl : o.sacks.length ≤ 1000) W (h : Below w.heap.size w W) => fit12_any o W (ho.below h) hsl)
  unfold FitRes at HFI
  have HMB := hid (fun W => may_any { o with A := none, c := 0, sacks := [] } W ⟨ho.mss, ho.scale, ho.val, ho.echo, ho.key, ho.next, ho.mac, Row.nil W 2, fun b h => by cases h⟩ (Nat.zero_le 1000))
  have HOS := hid (fun W A c n (hr : Row W 2 A (o.sacks.take n).length c (bcs (o.sacks.take n))) => opt_sacks (W := W) (A := A) (c := c) (n := n) ho hr)
  have HRW := hid (fun W (h : Below w.heap.size w W) => ho.row.below h)
  have HRC := hid ho.row.cap
  have HOK := hid ho.ok
  have HML := hid ho.mac
  have HMAY := hid (fit_may o ho.mac)
  have HMORE := hid (fit_more o ho.mac)
  have HI := hid (info_optsX o ho.mac)
  have HN := hid alloc_noOpt
  have HNZ := hid noOpt_size
  have H1 := hid o.one
  have HSO := hid (show noOpt.cells.size = o.cells.size by rw [HNZ.out, OptM.size o ho.mac])
  have HB0 := hid (set_s5 o ho.mac none 0 [])
  have HIB := hid (info_optsX { o with A := none, c := 0, sacks := [] } ho.mac)
  have HPC := hid (fun (q : OptM) (W : World) (g : Nat) (h : W.heap[g]? = some (.cells q.cells 27 (0, 0))) => opt_cells h)
  have HFZ := hid (fun (q : OptM) (W : World) (g k : Nat) (h : W.heap[g]? = some (.cells q.cells 27 (0, 0))) => Lib.frozen_of_heap h k)
  have HKL := hid (fitK_le o)
  obtain ⟨f, hf⟩ : ∃ t, decide (500 < o.sacks.length) = t := ⟨_, rfl⟩
  rw [hf] at HF
  have HFF := hid hf
  clear hf
  obtain ⟨K, hK⟩ : ∃ k, fitK o = k := ⟨_, rfl⟩
  rw [hK] at HFI HMAY HMORE HKL
  clear hK
  obtain ⟨mb, hmb⟩ : ∃ m, mayO { o with A := none, c := 0, sacks := [] } = m := ⟨_, rfl⟩
  rw [hmb] at HMB HMAY
  clear hmb
  have BB := hid (Below.refl w.heap.size w)
  obtain ⟨B, hB⟩ : ∃ x, w.heap.size = x := ⟨_, rfl⟩
  rw [hB] at BB
  have HB := hid hB
  have HST := hid (fun W (h : Below B w W) => show B ≤ W.heap.size by have := h.size; have := HB.out; omega)
  have ALIVE := hid (fun W (h : Below B w W) => (alive12_any W).mono (fun e w' (h' : e = .returned (.bool true) ∧ Below W.heap.size W w') => (⟨h'.1, h.trans (h'.2.mono (HST.out W h))⟩ : e = .returned (.bool true) ∧ Below B w w')))
  rw [hB] at HF HFI HRW
  clear hB ho
  go_enter Try.func6, Try.ntmps6
  go_wp2_with (first
    | ((with_reducible refine at_slot 1 ?_); refine wpList_boxF rfl 27 (.tmp 0) rfl o.cells rfl ?_; intro w1 hx1 hb1 hz1; rw [HB.out] at hx1 hb1 hz1 ⊢; have X := hid hx1; replace BB := hid hb1; clear hx1 hb1 hz1)
    | ((with_reducible refine at_slot 6 ?_); refine wpList_rowG rfl 27 (.tmp 1) rfl B rfl _ o.cells _ X.out Try.underlying27 rfl HI.out ?_))
  (with_reducible refine Calls.mono (HF.out _ BB.out) ?_)
  rintro e w2 ⟨rfl, hb2⟩
  replace X := hid ((hb2.block _ (Array.getElem?_eq_some_iff.1 X.out).1).trans X.out)
  replace BB := hid (BB.out.trans (hb2.mono (HST.out _ BB.out)))
  clear hb2
  cases f
  case true =>
    go_wp2_with fail
    (with_reducible refine Calls.mono (ALIVE.out _ BB.out) ?_)
    rintro e w3 ⟨rfl, hb3⟩
    have BF := hid hb3
    clear hb3
    go_wp2_with fail
    go_ret
    exact ⟨rfl, by rw [HB.out]; exact BF.out⟩
  have hsl : o.sacks.length ≤ 1000 := by have := of_decide_eq_false HFF.out; omega
  have HSL := hid hsl
  clear hsl
  have hlt2 := (Array.getElem?_eq_some_iff.1 X.out).1
  go_upto_region 4 with (first
    | ((with_reducible refine at_slot 9 ?_); refine wpList_rowG rfl 27 (.tmp 1) rfl B rfl _ o.cells _ X.out Try.underlying27 rfl HI.out ?_)
    | ((with_reducible refine at_slot 3 ?_); refine wpList_allocF rfl 27 rfl _ HN.out ?_; intro w3 hx3 hb3 hz3; have V := hid hx3; replace X := hid ((hb3.block _ hlt2).trans X.out); replace BB := hid (BB.out.trans (hb3.mono (by omega))); clear hx3 hb3 hz3)
    | ((with_reducible refine at_store 3 9 ?_); refine wpList_rowF rfl 27 (.tmp 3) (.tmp 9) rfl w2.heap.size 27 _ o.cells rfl rfl V.out HI.out HSO.out H1.out ?_; intro w4 h4 m4 z4; replace V := hid h4; replace X := hid (m4.keeps X.out (by simp <;> omega)); replace BB := hid (Mod.below BB.out m4 (Nat.le_of_eq HB.out.symm) (by simp <;> omega)); clear h4 m4 z4))
  obtain ⟨g3, hg3⟩ : ∃ g, w2.heap.size = g := ⟨_, rfl⟩
  rw [hg3] at V hlt2 ⊢
  clear hg3
  have ev := (HPC.out o _ _ V.out).2.2.2.2.2.1
  have zv := HFZ.out o _ _ 5 V.out
  have hm5 : Mod [g3] w4 (w4.setCell ⟨g3, 5, none⟩ (.slice none 0 0)) := Mod.setCell _ _ _ (by simp)
  have hv5 := rowSetCell V.out 5 (.slice none 0 0)
  rw [show (Value.slice none 0 0) = .slice none ([] : List (Nat × Nat)).length 0 from rfl, HB0.out] at hv5
  have V5 := hid hv5
  have X5 := hid (hm5.keeps X.out (by simp <;> omega))
  have B5 := hid (Mod.below BB.out hm5 (Nat.le_of_eq HB.out.symm) (by simp <;> omega))
  clear hv5 hm5
  go_upto_region 5 with fail
  clear ev zv V X BB
  skip
  generalize w4.setCell ⟨g3, 5, none⟩ _ = w5 at V5 X5 B5 ⊢
  have V := V5
  have X := X5
  have BB := B5
  clear V5 X5 B5
  go_wp2_with ((with_reducible refine at_slot 11 ?_); refine wpList_rowG rfl 27 (.tmp 1) rfl B rfl _ o.cells _ X.out Try.underlying27 rfl HI.out ?_)
  (with_reducible refine Calls.mono (HFI.out HSL.out _ BB.out) ?_)
  rintro e w6 ⟨A6, c6, rfl, ok6, hb6⟩
  have OQ := hid ok6
  replace X := hid ((hb6.block _ (Array.getElem?_eq_some_iff.1 X.out).1).trans X.out)
  replace V := hid ((hb6.block _ (Array.getElem?_eq_some_iff.1 V.out).1).trans V.out)
  replace BB := hid (BB.out.trans (hb6.mono (HST.out _ BB.out)))
  clear hb6 ok6
  have HMX := hid (fun W (h : OptOk W { o with A := A6, c := c6, sacks := o.sacks.take K }) => may_any { o with A := A6, c := c6, sacks := o.sacks.take K } W h (by show (o.sacks.take K).length ≤ 1000; rw [List.length_take]; have := HKL.out; omega))
  have HM2 := hid (fun h => HMAY.out h A6 c6)
  have HQL := hid (show ({ o with A := A6, c := c6, sacks := o.sacks.take K } : OptM).sacks.length = K by show (o.sacks.take K).length = K; rw [List.length_take]; have := HKL.out; omega)
  have HQS := hid (show ({ o with A := A6, c := c6, sacks := o.sacks.take K } : OptM).sacks = o.sacks.take K from rfl)
  have HIQ := hid (info_optsX { o with A := A6, c := c6, sacks := o.sacks.take K } HML.out)
  have HSQ := hid (show noOpt.cells.size = ({ o with A := A6, c := c6, sacks := o.sacks.take K } : OptM).cells.size by rw [HNZ.out, OptM.size { o with A := A6, c := c6, sacks := o.sacks.take K } HML.out])
  have HSET := hid (fun A c ss => set_s5 { o with A := A6, c := c6, sacks := o.sacks.take K } HML.out A c ss)
  have HEQ := hid (show ∀ A c ss, ({ ({ o with A := A6, c := c6, sacks := o.sacks.take K } : OptM) with A := A, c := c, sacks := ss } : OptM) = { o with A := A, c := c, sacks := ss } from fun _ _ _ => rfl)
  obtain ⟨q, hq⟩ : ∃ q : OptM, ({ o with A := A6, c := c6, sacks := o.sacks.take K } : OptM) = q := ⟨_, rfl⟩
  rw [hq] at OQ HMX HM2 HQL HQS HIQ HSQ HSET HEQ ⊢
  clear hq
  have hlt6 := (Array.getElem?_eq_some_iff.1 X.out).1
  have hlv6 := (Array.getElem?_eq_some_iff.1 V.out).1
  go_upto_region 6 with (first
    | ((with_reducible refine at_slot 4 ?_); refine wpList_allocF rfl 27 rfl _ HN.out ?_; intro w7 hx7 hb7 hz7; have Y := hid hx7; replace X := hid ((hb7.block _ hlt6).trans X.out); replace V := hid ((hb7.block _ hlv6).trans V.out); have OQ7 := hid (OQ.out.below hb7); replace BB := hid (BB.out.trans (hb7.mono (HST.out _ BB.out))); clear hx7 hb7 hz7)
    | ((with_reducible refine at_store 4 12 ?_); refine wpList_rowF rfl 27 (.tmp 4) (.tmp 12) rfl w6.heap.size 27 _ q.cells rfl rfl Y.out HIQ.out HSQ.out q.one ?_; intro w8 h8 m8 z8; replace Y := hid h8; replace X := hid (m8.keeps X.out (by simp <;> omega)); replace V := hid (m8.keeps V.out (by simp <;> omega)); replace BB := hid (Mod.below BB.out m8 (Nat.le_of_eq HB.out.symm) (by simp <;> omega)); have OQ8 := hid (OQ7.out.mod1 m8 (by intro ad hA hl; have := (OQ.out.row.lt ad hA hl); omega)); clear h8 m8 z8))
  replace OQ := OQ8
  clear OQ7 OQ8
  obtain ⟨g4, hg4⟩ : ∃ g, w6.heap.size = g := ⟨_, rfl⟩
  rw [hg4] at Y hlt6 hlv6 ⊢
  clear hg4
  go_wp2_with ((with_reducible refine at_slot 13 ?_); refine wpList_rowG rfl 27 (.tmp 3) rfl g3 rfl _ ({ o with A := none, c := 0, sacks := [] } : OptM).cells _ V.out Try.underlying27 rfl HIB.out ?_)
  (with_reducible refine Calls.mono (HMB.out _) ?_)
  rintro e w9 ⟨rfl, hb9⟩
  replace X := hid ((hb9.block _ (Array.getElem?_eq_some_iff.1 X.out).1).trans X.out)
  replace Y := hid ((hb9.block _ (Array.getElem?_eq_some_iff.1 Y.out).1).trans Y.out)
  replace BB := hid (BB.out.trans (hb9.mono (HST.out _ BB.out)))
  replace OQ := hid (OQ.out.below hb9)
  clear hb9 V
  cases mb
  case false =>
    go_wp2_with fail
    (with_reducible refine Calls.mono (ALIVE.out _ BB.out) ?_)
    rintro e w10 ⟨rfl, hb10⟩
    have BF := hid hb10
    clear hb10
    go_wp2_with fail
    go_ret
    exact ⟨rfl, by rw [HB.out]; exact BF.out⟩
  rw [HM2.out (by simp)] at HMX
  clear HM2 HMB HMAY
  have hqr := OQ.out.row
  go_wp2_with ((with_reducible refine at_slot 17 ?_); refine wpList_rowG rfl 27 (.tmp 4) rfl g4 rfl _ q.cells _ Y.out Try.underlying27 rfl HIQ.out ?_)
  (with_reducible refine Calls.mono (HMX.out _ OQ.out) ?_)
  rintro e w10 ⟨rfl, hb10⟩
  replace X := hid ((hb10.block _ (Array.getElem?_eq_some_iff.1 X.out).1).trans X.out)
  replace Y := hid ((hb10.block _ (Array.getElem?_eq_some_iff.1 Y.out).1).trans Y.out)
  replace BB := hid (BB.out.trans (hb10.mono (HST.out _ BB.out)))
  replace OQ := hid (OQ.out.below hb10)
  clear hb10 hqr
  have ex := (HPC.out o _ _ X.out).2.2.2.2.2.1
  have ey := (HPC.out q _ _ Y.out).2.2.2.2.2.1
  rw [HQL.out] at ey
  have t1 : decide ((o.sacks.length : Int) < (K : Int)) = false := by rw [decide_eq_false_iff_not]; have := HKL.out; omega
  have t2 : decide (o.sacks.length < K) = false := by rw [decide_eq_false_iff_not]; have := HKL.out; omega
  have t3 : ¬ o.sacks.length < K := of_decide_eq_false t2
  go_wp2_with fail
  clear t1 t2 t3
  have EX := hid ex
  have EY := hid ey
  clear ex ey
  go_loopw [5, 32] (fun s5 i wr => ∃ k : Nat, k ≤ K ∧ i = .int .i64 k ∧ Below w10.heap.size w10 wr) (fun _ i _ => K - (intOf i).toNat)
  case atStart => exact ⟨0, Nat.zero_le _, rfl, Below.refl _ _⟩
  case round =>
    obtain ⟨k, hk, rfl, hb⟩ := hrel
    have hgx := (Array.getElem?_eq_some_iff.1 X.out).1
    have hgy := (Array.getElem?_eq_some_iff.1 Y.out).1
    have X' := hid ((hb.block _ hgx).trans X.out)
    have Y' := hid ((hb.block _ hgy).trans Y.out)
    have EX' := keep_cell hb EX.out hgx
    have EY' := keep_cell hb EY.out hgy
    have BB' := hid (BB.out.trans (hb.mono (HST.out _ BB.out)))
    have OQ' := hid (OQ.out.below hb)
    have HBW := hid hb
    clear hb
    by_cases hlt : k < K
    · have hra := HRW.out _ BB'.out
      have hrb := OQ'.out.row
      rw [HQL.out, HQS.out] at hrb
      have hka : k < o.sacks.length := by have := HKL.out; omega
      have hkb : k < (o.sacks.take K).length := by rw [List.length_take]; omega
      obtain ⟨a1, ha1⟩ := hra.addr (by rw [bcs_length]; omega)
      obtain ⟨a2, ha2⟩ := hrb.addr (by rw [bcs_length]; omega)
      rw [ha1] at hra EX'
      rw [ha2] at hrb EY'
      obtain ⟨l0, l1⟩ := hra.blk k hka
      obtain ⟨m0, m1⟩ := hrb.blk k hkb
      have hsame : (o.sacks.take K).getD k (0, 0) = o.sacks.getD k (0, 0) := by simp [List.getD_eq_getElem?_getD, List.getElem?_take, hlt]
      rw [hsame] at m0 m1
      have hna := HOK.out.get k hka
      generalize o.sacks.getD k (0, 0) = xy at l0 l1 m0 m1 hna
      obtain ⟨x, y⟩ := xy
      simp only at l0 l1 m0 m1 hna
      have hneq := fun W => neq_blk x y x y hna hna W
      rw [decide_eq_true (rfl : (x, y) = (x, y))] at hneq
      have hK4 : K ≤ 4 := HKL.out.2
      have hkl : (k : Int) < (K : Int) := by omega
      have hkl2 : (k : Int) < (o.sacks.length : Int) := by omega
      clear hra hrb hna hsame hka hkb
      go_wp2_with fail
      refine wp_region_later wr.heap.size (Nat.le_refl _) (by kernel_rfl) (by kernel_rfl) ?_
      have q0 := fun x : Later wr.heap.size wr => x.cell EX' (World.block_lt_of_cell? _ _ EX')
      have q1 := fun x : Later wr.heap.size wr => x.cell EY' (World.block_lt_of_cell? _ _ EY')
      have q2 := fun x : Later wr.heap.size wr => x.cell l0 (World.block_lt_of_cell? _ _ l0)
      have q3 := fun x : Later wr.heap.size wr => x.cell l1 (World.block_lt_of_cell? _ _ l1)
      have q4 := fun x : Later wr.heap.size wr => x.cell m0 (World.block_lt_of_cell? _ _ m0)
      have q5 := fun x : Later wr.heap.size wr => x.cell m1 (World.block_lt_of_cell? _ _ m1)
      clear EX' EY' l0 l1 m0 m1
      repeat (go_big_quiet_step (first | fail))
      refine wpQuiet_nil ?_
      rintro _ ⟨lx, rfl⟩
      have HBW2 := hid (HBW.out.trans (lx.ok.mono HBW.out.size))
      clear q0 q1 q2 q3 q4 q5
      generalize lx.wd = W3 at HBW2 ⊢
      go_wp2_with fail
      go_roundw
      case rel => exact ⟨k + 1, by omega, by go_num, HBW2.out⟩
      case measure => simp [intOf]; omega
    · obtain rfl : k = K := by omega
      clear hk
      by_cases hmore : k < o.sacks.length
      · have t1 : decide ((k : Int) < (o.sacks.length : Int)) = true := by rw [decide_eq_true_eq]; omega
        have t2 : decide (k < o.sacks.length) = true := decide_eq_true hmore
        have hcut := cut_blk o.A o.sacks.length o.c (k + 1) (by have := HRC.out; omega)
        rw [show ((k + 1 : Nat) : Int) = (k : Int) + 1 by omega] at hcut
        have HK4 := hid HKL.out
        have hk4 : k ≤ 4 := HKL.out.2
        have zy := HFZ.out q _ _ 5 Y'.out
        go_upto_region 18 with fail
        have hm9 : Mod [g4] wr (wr.setCell ⟨g4, 5, none⟩ (.slice o.A (k + 1) o.c)) := Mod.setCell _ _ _ (by simp)
        have HTL := hid (show (o.sacks.take (k + 1)).length = k + 1 by rw [List.length_take]; omega)
        have hy9 := rowSetCell Y'.out 5 (.slice o.A (k + 1) o.c)
        have HY9 := hid (show (wr.setCell ⟨g4, 5, none⟩ (.slice o.A (k + 1) o.c)).heap[g4]? = some (.cells ({ o with A := o.A, c := o.c, sacks := o.sacks.take (k + 1) } : OptM).cells 27 (0, 0)) by have := HSET.out o.A o.c (o.sacks.take (k + 1)); rw [HTL.out, HEQ.out] at this; rw [← this]; exact hy9)
        have HB9 := hid (Mod.below BB'.out hm9 (Nat.le_of_eq HB.out.symm) (by simp <;> omega))
        have OK9 := hid (HOS.out (wr.setCell ⟨g4, 5, none⟩ (.slice o.A (k + 1) o.c)) o.A o.c (k + 1) (by rw [HTL.out]; exact (HRW.out _ HB9.out).takeB (k + 1) (by omega)))
        have HI9 := hid (info_optsX { o with A := o.A, c := o.c, sacks := o.sacks.take (k + 1) } HML.out)
        have HM9 := hid (may_any { o with A := o.A, c := o.c, sacks := o.sacks.take (k + 1) } _ OK9.out (by show (o.sacks.take (k + 1)).length ≤ 1000; rw [HTL.out]; omega))
        rw [HMORE.out hmore o.A o.c] at HM9
        clear hm9 hy9 zy hcut EX' EY'
        generalize ({ o with A := o.A, c := o.c, sacks := o.sacks.take (k + 1) } : OptM).cells = c9 at HY9 HI9 HM9
        skip
        go_wp2_with ((with_reducible refine at_slot 62 ?_); refine wpList_load_row rfl 27 (.tmp 4) rfl g4 rfl _ c9 _ _ HY9.out Try.underlying27 rfl HI9.out ?_)
        (with_reducible refine Calls.mono HM9.out ?_)
        rintro e w12 ⟨rfl, hb12⟩
        replace BB := hid (HB9.out.trans (hb12.mono (HST.out _ HB9.out)))
        clear hb12
        go_wp2_with fail
        (with_reducible refine Calls.mono (ALIVE.out _ BB.out) ?_)
        rintro e w13 ⟨rfl, hb13⟩
        have BF := hid hb13
        clear hb13
        go_wp2_with fail
        go_ret
        exact ⟨rfl, by rw [HB.out]; exact BF.out⟩
      · have t1 : decide ((k : Int) < (o.sacks.length : Int)) = false := by rw [decide_eq_false_iff_not]; omega
        have t2 : decide (k < o.sacks.length) = false := decide_eq_false hmore
        replace BB := BB'
        go_wp2_with fail
        (with_reducible refine Calls.mono (ALIVE.out _ BB.out) ?_)
        rintro e w13 ⟨rfl, hb13⟩
        have BF := hid hb13
        clear hb13
        go_wp2_with fail
        go_ret
        exact ⟨rfl, by rw [HB.out]; exact BF.out⟩
end Go.Proofs.Ythodepdgmcagjaa
