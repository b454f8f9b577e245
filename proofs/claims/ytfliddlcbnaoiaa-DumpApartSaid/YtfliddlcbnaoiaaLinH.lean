/- Walks: far, alive of layer 32. -/
import Derived.Test.YtfliddlcbnaoiaaLinG
import Derived.Test.YtfliddlcbnaoiaaQRow
namespace Go.Proofs.Ytfliddlcbnaoiaa
set_option linter.unusedVariables false
set_option linter.unusedSimpArgs false
open Go.RowKit

theorem far32_any (s : SegM) (w : World) (hs : SegOk w s) : Calls Try.prog 5 #[.agg s.cells] w fun e w' => e = .returned (.bool (decide (3000 < s.data.length) || decide (100 < s.o.sacks.length))) ∧ Below w.heap.size w w' := by
  have f31 := s.data_at hs.o.mac
  have f12 : s.cells[12]? = some (.slice s.o.A s.o.sacks.length s.o.c) := by
    rw [show 12 = 7 + 5 by rfl, s.opt_at 5 (by rw [s.o.size hs.o.mac]; decide)]
    exact s.o.at _ _ rfl
  generalize s.cells = cs at f31 f12
  obtain ⟨t, ht⟩ : ∃ t, decide (3000 < s.data.length) = t := ⟨_, rfl⟩
  obtain ⟨u, hu⟩ : ∃ u, decide (100 < s.o.sacks.length) = u := ⟨_, rfl⟩
  have ht2 : decide ((3000 : Int) < (s.data.length : Int)) = t := by rw [← ht, decide_eq_decide]; omega
  have hu2 : decide ((100 : Int) < (s.o.sacks.length : Int)) = u := by rw [← hu, decide_eq_decide]; omega
  rw [ht, hu]
  clear ht hu hs
  cases t
  · go_enter Try.func5, Try.ntmps5
    go_wp2_with fail
    go_ret
    exact ⟨rfl, bl1 _ _⟩
  · go_enter Try.func5, Try.ntmps5
    go_wp2_with fail
    go_ret
    exact ⟨rfl, bl1 _ _⟩
def aO : OptM := ⟨true, 100, false, 0, false, none, 0, [], false, 0, 0, false, 0, 0, [0, 0, 0, 0, 0, 0, 0, 0, 0, 0, 0, 0]⟩
def aS : SegM := ⟨1, 2, 5, 0, 2, 0, 0, aO, none, 0, []⟩
def noSeg : SegM := ⟨0, 0, 0, 0, 0, 0, 0, noOpt, none, 0, []⟩
theorem ten_100 : tenS 100 = [49, 48, 48] := by
  rw [tenS_big 100 (by decide), tenS_big (100 / 10) (by decide), tenS_small _ (by decide)]
  rfl
theorem line_aS : segN aS = [116, 99, 112, 32, 49, 32, 62, 32, 50, 32, 83, 32, 115, 101, 113, 32, 53, 32, 119, 105, 110, 32, 48, 32, 109, 115, 115, 32, 49, 48, 48] := by
  have h1 : tenS 1 = [49] := by rw [tenS_small _ (by decide)]; rfl
  have h2 : tenS 2 = [50] := by rw [tenS_small _ (by decide)]; rfl
  have h5 : tenS 5 = [53] := by rw [tenS_small _ (by decide)]; rfl
  have h0 : tenS 0 = [48] := by rw [tenS_small _ (by decide)]; rfl
  unfold segN optsN aS aO
  simp only [addN, optN, optS, dataN, sacksN, List.map_cons, List.map_nil, List.foldl_cons, List.foldl_nil, h1, h2, h5, h0, ten_100]
  decide +kernel
theorem build_aO : ∀ w, (Instr.build 27 #[(0, .bool true), (1, .int .u16 100)]).run Try.prog w = .ok (.agg aO.cells) w := by intro w; kernel_rfl
theorem build_aS : ∀ w, (Instr.build 30 #[(0, .int .u16 1), (1, .int .u16 2), (2, .int .u32 5), (4, .int .u8 2), (7, .agg aO.cells)]).run Try.prog w = .ok (.agg aS.cells) w := by intro w; kernel_rfl
theorem alloc_noSeg : ∀ w, (Instr.alloc 30 true (.tuple #[])).run Try.prog w = .ok (.pointer (some ⟨w.heap.size, 0, none⟩)) (w.alloc (.cells noSeg.cells 30)) := by intro w; kernel_rfl
theorem aS_ok (w : World) : SegOk w aS := by
  refine ⟨by decide, by decide, by decide, by decide, by decide, by decide, by decide, ⟨by decide, by decide, by decide, by decide, by decide, by decide, by decide, ⟨rfl, Nat.le_refl _, by decide, fun k v h => by simp [aS, aO, bcs] at h⟩, fun b h => by simp [aS, aO] at h⟩, ?_⟩
  exact RB.nil w
theorem SegM.one (s : SegM) : s.cells.all (·.oneCell') = true := by
  unfold SegM.cells
  simp only [Array.all_append, Bool.and_eq_true]
  exact ⟨⟨by simp [Value.oneCell'], s.o.one⟩, by simp [Value.oneCell']⟩
set_option maxRecDepth 20000 in
theorem alive32_any (w : World) : Calls Try.prog 7 #[] w fun e w' => e = .returned (.bool true) ∧ Below w.heap.size w w' := by
  have HA := hid (show aO.cells = aO.cells from rfl)
  have HB1 := hid build_aO
  have HB2 := hid build_aS
  have HI := hid (info_seg aS rfl)
  have H1 := hid aS.one
  have HZ := hid (show noSeg.cells.size = aS.cells.size by rw [noSeg.size rfl, aS.size rfl])
  have HS := hid (fun W => segment_any aS W (aS_ok W) (by decide))
  rw [line_aS] at HS
  have HN := hid alloc_noSeg
  have HF1 := hid (show ∀ W, Calls Try.prog 14 #[.int .u8 18] W fun e w' => e = .returned (.string (strOf [83, 65])) ∧ Below W.heap.size W w' from fun W => by
    have := flags_any 18 W (by decide)
    rw [show flagsS 18 = [83, 65] by decide +kernel] at this
    exact this)
  have HF2 := hid (show ∀ W, Calls Try.prog 14 #[.int .u8 0] W fun e w' => e = .returned (.string (strOf [45])) ∧ Below W.heap.size W w' from fun W => by
    have := flags_any 0 W (by decide)
    rw [show flagsS 0 = [45] by decide +kernel] at this
    exact this)
  have b0 : ((strOf [116, 99, 112, 32, 49, 32, 62, 32, 50, 32, 83, 32, 115, 101, 113, 32, 53, 32, 119, 105, 110, 32, 48, 32, 109, 115, 115, 32, 49, 48, 48]).toList == [116, 99, 112, 32, 49, 32, 62, 32, 50, 32, 83, 32, 115, 101, 113, 32, 53, 32, 119, 105, 110, 32, 48, 32, 109, 115, 115, 32, 49, 48, 48]) = true := by rw [toList_strOf]; exact beq_self_eq_true _
  have b1 : ((strOf [83, 65]).toList == [83, 65]) = true := by rw [toList_strOf]; exact beq_self_eq_true _
  have b2 : ((strOf [45]).toList == [45]) = true := by rw [toList_strOf]; exact beq_self_eq_true _
  generalize aO.cells = co at HB1 HB2
  generalize aS.cells = cs at HB2 HI H1 HZ HS
  generalize noSeg.cells = ns at HN HZ
  go_enter Try.func7, Try.ntmps7
  go_wp2_with (first
    | ((with_reducible refine at_build 27 ?_); refine wpList_buildF rfl 27 _ rfl #[(0, .bool true), (1, .int .u16 100)] (by simp [Act.eval, Act.put]) _ HB1.out ?_)
    | ((with_reducible refine at_build 30 ?_); refine wpList_buildF rfl 30 _ rfl #[(0, .int .u16 1), (1, .int .u16 2), (2, .int .u32 5), (4, .int .u8 2), (7, .agg co)] (by simp [Act.eval, Act.put]) _ HB2.out ?_)
    | ((with_reducible refine at_slot 1 ?_); refine wpList_allocF rfl 30 rfl _ HN.out ?_; intro w1 h1 hb1 z1)
    | ((with_reducible refine at_store 1 3 ?_); refine wpList_rowF rfl 30 (.tmp 1) (.tmp 3) rfl w.heap.size 30 _ cs rfl rfl h1 HI.out HZ.out H1.out ?_; intro w2 h2 m2 z2; have hb2 := hid (Mod.below hb1 m2 (Nat.le_refl _) (by simp)); clear h1 hb1 z1 m2 z2)
    | ((with_reducible refine at_slot 4 ?_); refine wpList_load_row rfl 30 (.tmp 1) rfl w.heap.size rfl _ cs _ _ h2 Try.underlying30 rfl HI.out ?_))
  (with_reducible refine Calls.mono (HS.out _) ?_)
  rintro e w3 ⟨rfl, hb3⟩
  have hb3' := hid (below_after hb2.out hb3 (Nat.le_refl _))
  clear hb3
  go_wp2_with fail
  (with_reducible refine Calls.mono (HF1.out _) ?_)
  rintro e w4 ⟨rfl, hb4⟩
  have hb4' := hid (below_after hb3'.out hb4 (Nat.le_refl _))
  clear hb4
  go_wp2_with fail
  (with_reducible refine Calls.mono (HF2.out _) ?_)
  rintro e w5 ⟨rfl, hb5⟩
  have hb5' := hid (below_after hb4'.out hb5 (Nat.le_refl _))
  clear hb5
  go_wp2_with fail
  go_ret
  exact ⟨rfl, hb5'.out⟩
/-! ### The law DumpParts -/
set_option maxRecDepth 20000 in
set_option maxHeartbeats 8000000 in
theorem lawParts_any (s : SegM) (kind : Int) (code id seq mtu c : Nat) (A : Option Addr) (d : List UInt8) (w : World) (hs : SegOk w s) (h1 : code < 256) (h2 : id < 65536) (h3 : seq < 65536) (h4 : mtu < 4294967296) (hd : RB w (.slice A d.length c) d) :
    Calls Try.prog 4 #[.agg s.cells, .agg #[.int .i64 kind, .int .u8 (code : Int), .int .u16 (id : Int), .int .u16 (seq : Int), .int .u32 (mtu : Int), .slice A d.length c]] w fun e w' => e = .returned (.bool true) ∧ Below w.heap.size w w' := by
  have hdl : d.length ≤ 9223372036854775807 := by
    obtain ⟨A7, c7, hd7, hdr⟩ := hd
    exact Nat.le_trans hdr.cap hdr.top
  have HFR := hid (fun W (h : Below w.heap.size w W) => far32_any s W (hs.below h))
  have HSG := hid (fun (hsl : s.o.sacks.length ≤ 100) W (h : Below w.heap.size w W) => segment_any s W (hs.below h) hsl)
  have HRS := hid (fun (hsl : s.o.sacks.length ≤ 100) W (h : Below w.heap.size w W) => rsegment_any s W (hs.below h) hsl)
  have HMS := hid (fun W => message_any kind code id seq mtu d.length c A W h1 h2 h3 h4 hdl)
  have HRM := hid (fun W => rmessage_any kind code id seq mtu d.length c A W h1 h2 h3 h4 hdl)
  have HFL := hid (fun W => flags_any s.flags W hs.flags)
  have HRF := hid (fun W => rflags_any s.flags W hs.flags)
  have HI := hid (info_seg s hs.o.mac)
  have HOC := hid (fun (W : World) (g : Nat) (h : W.heap[g]? = some (.cells s.cells 30 (0, 0))) => seg_cells h hs.o.mac)
  generalize hcs : s.cells = cs at HFR HSG HRS HI HOC ⊢
  clear hcs hd hs
  have hb0 := hid (Below.refl w.heap.size w)
  obtain ⟨xb, hxb⟩ : ∃ x, w.heap.size = x := ⟨_, rfl⟩
  rw [hxb] at HFR HSG HRS hb0
  have HXB := hid hxb
  clear hxb
  obtain ⟨t, ht⟩ : ∃ t, (decide (3000 < s.data.length) || decide (100 < s.o.sacks.length)) = t := ⟨_, rfl⟩
  rw [ht] at HFR
  go_enter Try.func4, Try.ntmps4
  go_wp2_with (first
    | ((with_reducible refine at_slot 2 ?_); refine wpList_boxF rfl 30 (.tmp 0) rfl cs rfl ?_; intro w1 hx1 hb1 hz1; rw [HXB.out] at hx1 hb1 hz1 ⊢)
    | ((with_reducible refine at_slot 3 ?_); refine wpList_boxF rfl 37 (.tmp 1) rfl #[.int .i64 kind, .int .u8 (code : Int), .int .u16 (id : Int), .int .u16 (seq : Int), .int .u32 (mtu : Int), .slice A d.length c] rfl ?_; intro w2 hx2 hb2 hz2; rw [hz1] at hx2 hb2 hz2 ⊢; have hy1 := (hb2.block _ (by omega)).trans hx1; have HB2 := hid (hb1.trans (hb2.mono (by omega))); have HX1 := hid hy1; have HX2 := hid hx2; clear hx1 hb1 hz1 hx2 hb2 hz2)
    | ((with_reducible refine at_slot 6 ?_); refine wpList_load_row rfl 30 (.tmp 2) rfl xb rfl _ cs _ _ HX1.out Try.underlying30 rfl HI.out ?_))
  (with_reducible refine Calls.mono (HFR.out _ HB2.out) ?_)
  rintro e w3 ⟨rfl, hb3⟩
  have HX3 := hid ((hb3.block _ (Array.getElem?_eq_some_iff.1 HX1.out).1).trans HX1.out)
  have HY3 := hid ((hb3.block _ (Array.getElem?_eq_some_iff.1 HX2.out).1).trans HX2.out)
  have HB3 := hid (HB2.out.trans (hb3.mono (by have := HB2.out.size; have := HXB.out; omega)))
  clear hb3 HX1 HX2 HB2 HFR
  have ALIVE := hid (fun W (h : Below xb w W) => (alive32_any W).mono (fun e w' (h' : e = .returned (.bool true) ∧ Below W.heap.size W w') => (⟨h'.1, h.trans (h'.2.mono (by have := h.size; have := HXB.out; omega))⟩ : e = .returned (.bool true) ∧ Below xb w w')))
  cases t
  · obtain ⟨u, hu⟩ : ∃ u, decide (3000 < d.length) = u := ⟨_, rfl⟩
    have hu2 : decide ((3000 : Int) < (d.length : Int)) = u := by rw [← hu, decide_eq_decide]; omega
    have HSL := hid (show s.o.sacks.length ≤ 100 by
      have := (Bool.or_eq_false_iff.1 ht).2
      have := of_decide_eq_false this
      omega)
    clear ht hu
    obtain ⟨e0, e1, e2, e3, e4, e5⟩ := msg_cells6 HY3.out
    cases u
    · go_wp2_with fail
      have hx4 := nw0 w3 (.cells #[.int .i64 kind, .int .u8 (code : Int), .int .u16 (id : Int), .int .u16 (seq : Int), .int .u32 (mtu : Int), .slice A d.length c] 38) HX3.out
      have hy4 := nw0 w3 (.cells #[.int .i64 kind, .int .u8 (code : Int), .int .u16 (id : Int), .int .u16 (seq : Int), .int .u32 (mtu : Int), .slice A d.length c] 38) HY3.out
      have hz4 := nw1 w3 (.cells #[.int .i64 kind, .int .u8 (code : Int), .int .u16 (id : Int), .int .u16 (seq : Int), .int .u32 (mtu : Int), .slice A d.length c] 38)
      have hb4 := HB3.out.trans ((bl1 w3 (.cells #[.int .i64 kind, .int .u8 (code : Int), .int .u16 (id : Int), .int .u16 (seq : Int), .int .u32 (mtu : Int), .slice A d.length c] 38)).mono (by have := HB3.out.size; have := HXB.out; omega))
      have hc4 := bl1 w3 (.cells #[.int .i64 kind, .int .u8 (code : Int), .int .u16 (id : Int), .int .u16 (seq : Int), .int .u32 (mtu : Int), .slice A d.length c] 38)
      clear e0 e1 e2 e3 e4 e5 HX3 HY3 hc4
      generalize w3.heap.size = mb at hz4 ⊢
      generalize w3.alloc _ = w4 at hx4 hy4 hz4 hb4 ⊢
      have hxl := (Array.getElem?_eq_some_iff.1 hx4).1
      have hyl := (Array.getElem?_eq_some_iff.1 hy4).1
      have hzl := (Array.getElem?_eq_some_iff.1 hz4).1
      obtain ⟨g0, g1, g2, g3, g4, g5, g6, g7⟩ := HOC.out w4 xb hx4
      refine wp_region_later w4.heap.size (Nat.le_refl _) (by kernel_rfl) (by kernel_rfl) ?_
      have bx := fun x : Later w4.heap.size w4 => x.blk hx4 hxl
      have bY := fun x : Later w4.heap.size w4 => x.blk hy4 hyl
      have bz := fun x : Later w4.heap.size w4 => x.blk hz4 hzl
      have q4 := fun x : Later w4.heap.size w4 => x.cell g4 hxl
      have DB := hid fun x : Later w4.heap.size w4 => hb4.trans (x.ok.mono (by have := hb4.size; have := HXB.out; omega))
      have c1 : ((strOf (segN s)).toList == (strOf (segN s)).toList) = true := beq_self_eq_true _
      have c2 : ((strOf (msgN kind code id seq mtu d.length)).toList == (strOf (msgN kind code id seq mtu d.length)).toList) = true := beq_self_eq_true _
      have c3 : ((strOf (flagsS s.flags)).toList == (strOf (flagsS s.flags)).toList) = true := beq_self_eq_true _
      clear g0 g1 g2 g3 g4 g5 g6 g7 hx4 hy4 hz4
      have HIM : (Try.prog.info? 38).map (·.size) = some 6 := by kernel_rfl
      have HIR : (Try.prog.info? 37).map (·.size) = some 6 := by kernel_rfl
      repeat (first
        | ((with_reducible refine atq_slot 28 ?_); refine wpQuiet_row (by rfl) 30 (.tmp 2) rfl ⟨xb, 0, none⟩ rfl cs _ (row_later bx) Try.underlying30 rfl HI.out ?_; simp only [Act.put, List.setIfInBounds_toArray, List.set_cons_zero, List.set_cons_succ])
        | ((with_reducible refine atq_slot 30 ?_); refine wpQuiet_row (by rfl) 30 (.tmp 2) rfl ⟨xb, 0, none⟩ rfl cs _ (row_later bx) Try.underlying30 rfl HI.out ?_; simp only [Act.put, List.setIfInBounds_toArray, List.set_cons_zero, List.set_cons_succ])
        | ((with_reducible refine atq_slot 34 ?_); refine wpQuiet_row (by rfl) 38 (.tmp 5) rfl ⟨mb, 0, none⟩ rfl _ _ (row_later bz) Try.underlying38 rfl HIM ?_; simp only [Act.put, List.setIfInBounds_toArray, List.set_cons_zero, List.set_cons_succ])
        | ((with_reducible refine atq_slot 36 ?_); refine wpQuiet_row (by rfl) 37 (.tmp 3) rfl ⟨xb + 1, 0, none⟩ rfl _ _ (row_later bY) Try.underlying37 rfl HIR ?_; simp only [Act.put, List.setIfInBounds_toArray, List.set_cons_zero, List.set_cons_succ])
        | go_big_quiet_step (first
          | (go_at_call 9; with_reducible exact quiet_later _ (Nat.le_refl _) (HSG.out HSL.out _ (DB.out _)))
          | (go_at_call 11; with_reducible exact quiet_later _ (Nat.le_refl _) (HRS.out HSL.out _ (DB.out _)))
          | (go_at_call 12; with_reducible exact quiet_later _ (Nat.le_refl _) (HMS.out _))
          | (go_at_call 13; with_reducible exact quiet_later _ (Nat.le_refl _) (HRM.out _))
          | (go_at_call 14; with_reducible exact quiet_later _ (Nat.le_refl _) (HFL.out _))
          | (go_at_call 15; with_reducible exact quiet_later _ (Nat.le_refl _) (HRF.out _))
          | (go_at_call 7; with_reducible exact quiet_later _ (Nat.le_refl _) (alive32_any _))))
      refine wpQuiet_nil ?_
      rintro _ ⟨x, rfl⟩
      have hfin := DB.out x
      clear bx bY bz q4
      go_wp2_with fail
      go_ret
      exact ⟨rfl, by rw [HXB.out]; exact hfin⟩
    · go_wp2_with fail
      (with_reducible refine Calls.mono (ALIVE.out _ HB3.out) ?_)
      rintro e w4 ⟨rfl, hb4⟩
      go_wp2_with fail
      go_ret
      exact ⟨rfl, by rw [HXB.out]; exact hb4⟩
  · go_wp2_with fail
    (with_reducible refine Calls.mono (ALIVE.out _ HB3.out) ?_)
    rintro e w4 ⟨rfl, hb4⟩
    go_wp2_with fail
    go_ret
    exact ⟨rfl, by rw [HXB.out]; exact hb4⟩
end Go.Proofs.Ytfliddlcbnaoiaa
