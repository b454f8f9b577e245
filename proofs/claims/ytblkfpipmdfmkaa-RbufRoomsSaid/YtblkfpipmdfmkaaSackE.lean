/- Walk: Add, over what join does. -/
import Derived.Test.YtblkfpipmdfmkaaSackP
import Derived.Test.YtblkfpipmdfmkaaRegM
import Derived.Deep.DeepCutAuto
import Derived.RegionTactic
namespace Go.Proofs.Ytblkfpipmdfmkaa
set_option linter.unusedVariables false
set_option linter.unusedSimpArgs false
open Go.RowKit

theorem build_run1 (x y : Int) : ∀ w, (Instr.build 81 #[(0, .int .i64 x), (1, .int .i64 y)]).run Try.prog w = .ok (.agg #[.int .i64 x, .int .i64 y]) w := by intro w; kernel_rfl
theorem exec_buildR {P : Program} {o : Oper} {a : Act} {w : World} (t : TypeId) (parts : Array (Nat × Operand)) (ho : o.op = .build t parts) (vals : Array (Nat × Value)) (hp : parts.map (fun (i, x) => (i, a.eval x)) = vals) (v : Value) (hz : ∀ w, (Instr.build t vals).run P w = .ok v w) :
    (execOp a.eval o).run P w = .ok (.value v) w := by unfold execOp; simp only [ho, hp, Sem.run_bind, hz, Result.andThen_ok, Sem.run_pure]
theorem info_runs : (Try.prog.info? 81).map (·.size) = some 2 := by kernel_rfl
set_option maxHeartbeats 4000000 in
theorem add_any (g f next : Nat) (rs bs : List (Nat × Nat)) (A : Option Addr) (c : Nat) (w : World) (h : Brd w g f rs) (hf : f < 4294967296) (hn : next < 4294967296) (hrow : Row w 2 A bs.length c (bcs bs)) (hrw : ∀ W', Mod [g] w W' → Row W' 2 A bs.length c (bcs bs)) (hB : OkB bs)
    (Inv : Nat → List (Nat × Nat) → Prop) (h0 : Inv 0 rs) (hok : ∀ k rs', Inv k rs' → OkR rs') (hstep : ∀ k rs', k < bs.length → Inv k rs' → Inv (k + 1) (addR1 f (aheadS f next) rs' (bs.getD k (0, 0))))
    (hj : ∀ k rs' (x y : Nat) W, k < bs.length → Inv k rs' → Brd W g f rs' → x < y → y ≤ 65536 → Calls Try.prog 47 #[.pointer (some ⟨g, 0, none⟩), .agg #[.int .i64 (x : Int), .int .i64 (y : Int)]] W fun e w' =>
      e = .returned (.tuple #[]) ∧ Brd w' g f (joinR rs' (x, y)) ∧ Mod [g] W w') :
    Calls Try.prog 30 #[.pointer (some ⟨g, 0, none⟩), .int .u32 (next : Int), .slice A bs.length c] w fun e w' =>
      e = .returned (.int .i64 ((sumR (addR f (aheadS f next) rs bs) : Int) - (sumR rs : Int))) ∧ Brd w' g f (addR f (aheadS f next) rs bs) ∧ Inv bs.length (addR f (aheadS f next) rs bs) ∧ Mod [g] w w' := by
  have HO := hid (ok_yes g f rs w h)
  have HBy := hid (bytes_any g f rs w h (hok 0 rs h0))
  have HE := hid fun W (h : Brd W g f rs) => ahead_any g f rs next W h hf hn
  have hab : (next + 4294967296 - f) % 4294967296 = aheadS f next := rfl
  rw [hab] at HE
  have hsl := sumR_le rs (hok 0 rs h0).2 rs.length
  rw [List.take_length] at hsl
  have hrl := (hok 0 rs h0).1
  have hwas : sumR rs ≤ 4294967296 := Nat.le_trans hsl (by omega)
  have hel : aheadS f next < 4294967296 := Nat.mod_lt _ (by decide)
  have HBR := hid h
  have HRW := hid hrw
  have HJ := hid hj
  have HST := hid hstep
  have HOK := hid hok
  have HBB := hid hB
  have H0 := hid h0
  have HT := hid (fun k h => addR_take f (aheadS f next) rs bs k h)
  have htop := hrow.top
  have hcap := hrow.cap
  clear h hrow hrw hj hstep hok hB h0 hsl hrl hab
  obtain ⟨was, hwasd⟩ : ∃ n, sumR rs = n := ⟨_, rfl⟩
  rw [hwasd] at HBy hwas ⊢
  obtain ⟨en, hend⟩ : ∃ n, aheadS f next = n := ⟨_, rfl⟩
  rw [hend] at HE HST HT hel ⊢
  have HEN := hid hend
  clear hwasd hend
  go_enter Try.func30, Try.ntmps30
  go_wp2_with fail
  (with_reducible refine Calls.mono HO.out ?_)
  rintro e w' ⟨rfl, rfl⟩
  go_wp2_with fail
  (with_reducible refine Calls.mono HBy.out ?_)
  rintro e w1 ⟨rfl, hb1⟩
  have B1 := hid (HBR.out.below hb1)
  have M1 := hid ((Mod.of_below hb1).sub (N := [g]) (by simp))
  clear hb1
  go_wp2_with fail
  (with_reducible refine Calls.mono (HE.out _ B1.out) ?_)
  rintro e w' ⟨rfl, rfl⟩
  go_wp2_with fail
  go_loopw [22] (fun i wr => ∃ (k : Nat) (rs' : List (Nat × Nat)), k ≤ bs.length ∧ i = .int .i64 k ∧ Hid (rs' = addR f en rs (bs.take k)) ∧ Hid (Inv k rs') ∧ Hid (Brd wr g f rs') ∧ Hid (Mod [g] w wr)) (fun i _ => bs.length - (intOf i).toNat)
  case atStart => exact ⟨0, rs, Nat.zero_le _, rfl, hid rfl, H0, B1, M1⟩
  case round =>
    obtain ⟨k, rs', hk, rfl, he, hi, hbr, hm⟩ := hrel
    by_cases hlt : k < bs.length
    · have hrow := HRW.out _ hm.out
      obtain ⟨a, rfl⟩ := hrow.addr (by rw [bcs_length]; omega)
      obtain ⟨l0, l1⟩ := hrow.blk k hlt
      have hbg := HBB.out.get k hlt
      have ht := HT.out k hlt
      rw [← he.out] at ht
      have hi2 := HST.out k rs' hlt hi.out
      rw [← ht] at hi2
      have had : addR1 f en rs' (bs.getD k (0, 0)) = if en ≤ 65536 ∧ aheadS f (bs.getD k (0, 0)).2 ≤ en ∧ aheadS f (bs.getD k (0, 0)).1 < aheadS f (bs.getD k (0, 0)).2 then joinR rs' (aheadS f (bs.getD k (0, 0)).1, aheadS f (bs.getD k (0, 0)).2) else rs' := rfl
      rw [had] at ht
      clear had
      generalize bs.getD k (0, 0) = bk at *
      obtain ⟨bl, br⟩ := bk
      simp only at l0 l1 hbg ht
      have HA2 := hid fun W (h : Brd W g f rs') => ahead_any g f rs' bl W h hf hbg.1
      have HA3 := hid fun W (h : Brd W g f rs') => ahead_any g f rs' br W h hf hbg.2
      have hax : (bl + 4294967296 - f) % 4294967296 = aheadS f bl := rfl
      have hay : (br + 4294967296 - f) % 4294967296 = aheadS f br := rfl
      rw [hax] at HA2
      rw [hay] at HA3
      have hxl2 : aheadS f bl < 4294967296 := Nat.mod_lt _ (by decide)
      have hyl2 : aheadS f br < 4294967296 := Nat.mod_lt _ (by decide)
      clear hax hay
      generalize aheadS f bl = x at *
      generalize aheadS f br = y at *
      have HTT := hid ht
      have HI2 := hid hi2
      clear ht hi2 hrow
      go_upto_region 8 with (fail)
      have b0 := cellRow (nw1 wr (.cells #[.int .u32 (bl : Int), .int .u32 (br : Int)] 57)) 0
      have b1 := cellRow (nw1 wr (.cells #[.int .u32 (bl : Int), .int .u32 (br : Int)] 57)) 1
      simp only [List.getElem?_toArray, List.getElem?_cons_succ, List.getElem?_cons_zero] at b0 b1
      have BR1 := hbr.out.below (bl1 wr (.cells #[.int .u32 (bl : Int), .int .u32 (br : Int)] 57))
      have M1 := hid (hm.out.trans ((Mod.of_below (bl1 wr (.cells #[.int .u32 (bl : Int), .int .u32 (br : Int)] 57))).sub (N := [g]) (by simp)))
      have hxl : wr.heap.size < (wr.alloc (.cells #[.int .u32 (bl : Int), .int .u32 (br : Int)] 57)).heap.size := by simp
      generalize wr.heap.size = xb at *
      generalize wr.alloc _ = W1 at *
      have BR := hid fun W (h : Below W1.heap.size W1 W) => BR1.below h
      go_cut [11] (fun s11 wx => ∃ gb : Nat, s11 = .pointer (some ⟨gb, 0, none⟩) ∧ wx.heap[gb]? = some (.cells #[.int .i64 (x : Int), .int .i64 (y : Int)] 81 (0, 0)) ∧ W1.heap.size ≤ gb ∧ Below W1.heap.size W1 wx)
      case first =>
        refine wp_region_hand (fun W' => Below W1.heap.size W1 W') (by kernel_rfl) (below_drewN (Below.refl _ _) 1) ?_
        intro hS
        generalize ({ W1 with drawn := W1.drawn + 1 } : World) = u at hS ⊢
        refine wpAnyH_take (i := 0) (oi := ⟨some 26, _, _, _, _, _⟩) (v := ?_) rfl (by kernel_rfl) (by kernel_rfl) (by kernel_rfl) (fun _ _ _ h => h) (Or.inl ⟨by rfl, ?_⟩) hS ?_
        rotate_left 1
        focus ((intro W' hS'; go_simp) <;> with_reducible rfl)
        try simp only [Act.put, List.setIfInBounds_toArray, List.set_cons_zero, List.set_cons_succ]
        refine wpAnyH_take (i := 1) (oi := ⟨some 27, _, _, _, _, _⟩) (v := ?_) rfl (by kernel_rfl) (by kernel_rfl) (by kernel_rfl) (fun _ _ _ h => h) (Or.inl ⟨by rfl, ?_⟩) hS ?_
        rotate_left 1
        focus ((intro W' hS'; go_simp) <;> with_reducible rfl)
        try simp only [Act.put, List.setIfInBounds_toArray, List.set_cons_zero, List.set_cons_succ]
        refine wpAnyH_take (i := 2) (oi := ⟨some 28, _, _, _, _, _⟩) (v := ?_) rfl (by kernel_rfl) (by kernel_rfl) (by kernel_rfl) (fun _ _ _ h => h) (Or.inl ⟨by rfl, ?_⟩) hS ?_
        rotate_left 1
        focus ((intro W' hS'; have q1 := keep_cell hS' b0 hxl; go_simp) <;> with_reducible rfl)
        try simp only [Act.put, List.setIfInBounds_toArray, List.set_cons_zero, List.set_cons_succ]
        refine wpAnyH_take (i := 4) (oi := ⟨some 30, _, _, _, _, _⟩) (v := ?_) rfl (by kernel_rfl) (by kernel_rfl) (by kernel_rfl) (fun _ _ _ h => h) (Or.inl ⟨by rfl, ?_⟩) hS ?_
        rotate_left 1
        focus ((intro W' hS'; go_simp) <;> with_reducible rfl)
        try simp only [Act.put, List.setIfInBounds_toArray, List.set_cons_zero, List.set_cons_succ]
        refine wpAnyH_take (i := 5) (oi := ⟨some 31, _, _, _, _, _⟩) (v := ?_) rfl (by kernel_rfl) (by kernel_rfl) (by kernel_rfl) (fun _ _ _ h => h) (Or.inl ⟨by rfl, ?_⟩) hS ?_
        rotate_left 1
        focus ((intro W' hS'; go_simp) <;> with_reducible rfl)
        try simp only [Act.put, List.setIfInBounds_toArray, List.set_cons_zero, List.set_cons_succ]
        refine wpAnyH_take (i := 6) (oi := ⟨some 32, _, _, _, _, _⟩) (v := ?_) rfl (by kernel_rfl) (by kernel_rfl) (by kernel_rfl) (fun _ _ _ h => h) (Or.inl ⟨by rfl, ?_⟩) hS ?_
        rotate_left 1
        focus ((intro W' hS'; have q1 := keep_cell hS' b1 hxl; go_simp) <;> with_reducible rfl)
        try simp only [Act.put, List.setIfInBounds_toArray, List.set_cons_zero, List.set_cons_succ]
        refine anyH_two (i := 3) (j := 9) (by kernel_rfl) (op_in ⟨some 29, _, _, _, _, _⟩ rfl (by rfl) ?_) (op_in ⟨some 11, _, _, _, _, _⟩ rfl (by rfl) ?_)
        · go_simp
          with_reducible refine Calls.mono (HA2.out _ (BR.out _ hS)) ?_
          rintro e u' ⟨rfl, rfl⟩
          refine ⟨hS, ?_⟩
          try simp only [Act.put, List.setIfInBounds_toArray, List.set_cons_zero, List.set_cons_succ]
          refine anyH_two (i := 7) (j := 9) (by kernel_rfl) (op_in ⟨some 33, _, _, _, _, _⟩ rfl (by rfl) ?_) (op_in ⟨some 11, _, _, _, _, _⟩ rfl (by rfl) ?_)
          · go_simp
            with_reducible refine Calls.mono (HA3.out _ (BR.out _ hS)) ?_
            rintro e u' ⟨rfl, rfl⟩
            refine ⟨hS, ?_⟩
            try simp only [Act.put, List.setIfInBounds_toArray, List.set_cons_zero, List.set_cons_succ]
            refine wpAnyH_take (i := 8) (oi := ⟨some 34, _, _, _, _, _⟩) (v := .agg #[.int .i64 (x : Int), .int .i64 (y : Int)]) rfl (by kernel_rfl) (by kernel_rfl) (by kernel_rfl) (fun _ _ _ h => h) (Or.inl ⟨by rfl, fun W' hS' => exec_buildR 81 _ rfl #[(0, .int .i64 (x : Int)), (1, .int .i64 (y : Int))] (by simp [Act.eval, Act.put]) _ (build_run1 _ _)⟩) hS ?_
            try simp only [Act.put, List.setIfInBounds_toArray, List.set_cons_zero, List.set_cons_succ]
            refine anyH_one (i := 9) (by kernel_rfl) ⟨some 11, _, _, _, _, _⟩ rfl (by rfl) ?_
            have hz := hS.size
            refine wp_allocR 81 rfl #[.int .i64 0, .int .i64 0] alloc_run ?_
            intro wn hn hbn
            have hS2 := hS.trans (hbn.mono hS.size)
            refine ⟨hS2, ?_⟩
            clear hS
            have hS := hS2
            clear hS2
            try simp only [Act.put, List.setIfInBounds_toArray, List.set_cons_zero, List.set_cons_succ]
            refine anyH_one (i := 10) (by kernel_rfl) ⟨none, _, _, _, _, _⟩ rfl (by rfl) ?_
            refine wp_partF 81 (.tmp 11) (.tmp 34) rfl _ 0 81 _ #[.int .i64 (x : Int), .int .i64 (y : Int)] [.int .i64 (x : Int), .int .i64 (y : Int)] rfl rfl hn (Nat.le_refl 2) (by simp [Value.oneCell']) (by kernel_rfl) rfl ?_
            intro w9 h9 m9 s9
            have hS9 := m9.below hS (Nat.le_refl _) (by simp; exact hz)
            refine ⟨hS9, ?_⟩
            try simp only [Act.put, List.setIfInBounds_toArray, List.set_cons_zero, List.set_cons_succ]
            refine wpAnyH_done (by kernel_rfl) ?_ _
            go_wp2_with fail
            go_meet
            exact ⟨_, rfl, h9, hz, hS9⟩
          · have hz := hS.size
            refine wp_allocR 81 rfl #[.int .i64 0, .int .i64 0] alloc_run ?_
            intro wn hn hbn
            have hS2 := hS.trans (hbn.mono hS.size)
            refine ⟨hS2, ?_⟩
            clear hS
            have hS := hS2
            clear hS2
            try simp only [Act.put, List.setIfInBounds_toArray, List.set_cons_zero, List.set_cons_succ]
            refine anyH_one (i := 7) (by kernel_rfl) ⟨some 33, _, _, _, _, _⟩ rfl (by rfl) ?_
            go_simp
            with_reducible refine Calls.mono (HA3.out _ (BR.out _ hS)) ?_
            rintro e u' ⟨rfl, rfl⟩
            refine ⟨hS, ?_⟩
            try simp only [Act.put, List.setIfInBounds_toArray, List.set_cons_zero, List.set_cons_succ]
            refine wpAnyH_take (i := 8) (oi := ⟨some 34, _, _, _, _, _⟩) (v := .agg #[.int .i64 (x : Int), .int .i64 (y : Int)]) rfl (by kernel_rfl) (by kernel_rfl) (by kernel_rfl) (fun _ _ _ h => h) (Or.inl ⟨by rfl, fun W' hS' => exec_buildR 81 _ rfl #[(0, .int .i64 (x : Int)), (1, .int .i64 (y : Int))] (by simp [Act.eval, Act.put]) _ (build_run1 _ _)⟩) hS ?_
            try simp only [Act.put, List.setIfInBounds_toArray, List.set_cons_zero, List.set_cons_succ]
            refine anyH_one (i := 10) (by kernel_rfl) ⟨none, _, _, _, _, _⟩ rfl (by rfl) ?_
            refine wp_partF 81 (.tmp 11) (.tmp 34) rfl _ 0 81 _ #[.int .i64 (x : Int), .int .i64 (y : Int)] [.int .i64 (x : Int), .int .i64 (y : Int)] rfl rfl hn (Nat.le_refl 2) (by simp [Value.oneCell']) (by kernel_rfl) rfl ?_
            intro w9 h9 m9 s9
            have hS9 := m9.below hS (Nat.le_refl _) (by simp; exact hz)
            refine ⟨hS9, ?_⟩
            try simp only [Act.put, List.setIfInBounds_toArray, List.set_cons_zero, List.set_cons_succ]
            refine wpAnyH_done (by kernel_rfl) ?_ _
            go_wp2_with fail
            go_meet
            exact ⟨_, rfl, h9, hz, hS9⟩
        · have hz := hS.size
          refine wp_allocR 81 rfl #[.int .i64 0, .int .i64 0] alloc_run ?_
          intro wn hn hbn
          have hS2 := hS.trans (hbn.mono hS.size)
          refine ⟨hS2, ?_⟩
          clear hS
          have hS := hS2
          clear hS2
          try simp only [Act.put, List.setIfInBounds_toArray, List.set_cons_zero, List.set_cons_succ]
          refine anyH_one (i := 3) (by kernel_rfl) ⟨some 29, _, _, _, _, _⟩ rfl (by rfl) ?_
          go_simp
          with_reducible refine Calls.mono (HA2.out _ (BR.out _ hS)) ?_
          rintro e u' ⟨rfl, rfl⟩
          refine ⟨hS, ?_⟩
          try simp only [Act.put, List.setIfInBounds_toArray, List.set_cons_zero, List.set_cons_succ]
          refine anyH_one (i := 7) (by kernel_rfl) ⟨some 33, _, _, _, _, _⟩ rfl (by rfl) ?_
          go_simp
          with_reducible refine Calls.mono (HA3.out _ (BR.out _ hS)) ?_
          rintro e u' ⟨rfl, rfl⟩
          refine ⟨hS, ?_⟩
          try simp only [Act.put, List.setIfInBounds_toArray, List.set_cons_zero, List.set_cons_succ]
          refine wpAnyH_take (i := 8) (oi := ⟨some 34, _, _, _, _, _⟩) (v := .agg #[.int .i64 (x : Int), .int .i64 (y : Int)]) rfl (by kernel_rfl) (by kernel_rfl) (by kernel_rfl) (fun _ _ _ h => h) (Or.inl ⟨by rfl, fun W' hS' => exec_buildR 81 _ rfl #[(0, .int .i64 (x : Int)), (1, .int .i64 (y : Int))] (by simp [Act.eval, Act.put]) _ (build_run1 _ _)⟩) hS ?_
          try simp only [Act.put, List.setIfInBounds_toArray, List.set_cons_zero, List.set_cons_succ]
          refine anyH_one (i := 10) (by kernel_rfl) ⟨none, _, _, _, _, _⟩ rfl (by rfl) ?_
          refine wp_partF 81 (.tmp 11) (.tmp 34) rfl _ 0 81 _ #[.int .i64 (x : Int), .int .i64 (y : Int)] [.int .i64 (x : Int), .int .i64 (y : Int)] rfl rfl hn (Nat.le_refl 2) (by simp [Value.oneCell']) (by kernel_rfl) rfl ?_
          intro w9 h9 m9 s9
          have hS9 := m9.below hS (Nat.le_refl _) (by simp; exact hz)
          refine ⟨hS9, ?_⟩
          try simp only [Act.put, List.setIfInBounds_toArray, List.set_cons_zero, List.set_cons_succ]
          refine wpAnyH_done (by kernel_rfl) ?_ _
          go_wp2_with fail
          go_meet
          exact ⟨_, rfl, h9, hz, hS9⟩
      case rest =>
        obtain ⟨gb, rfl, hgb, hgl, hbc⟩ := hcut
        have g0 := cellRow hgb 0
        have g1 := cellRow hgb 1
        simp only [List.getElem?_toArray, List.getElem?_cons_succ, List.getElem?_cons_zero] at g0 g1
        have BRc := hid (BR.out _ hbc)
        have Mc := hid (M1.out.trans ((Mod.of_below hbc).sub (N := [g]) (by simp)))
        clear b0 b1 l0 l1 hbc hm hbr BR1 M1
        by_cases hc : en ≤ 65536 ∧ y ≤ en ∧ x < y
        · have d1 : decide ((en : Int) ≤ 65536) = true := decide_eq_true (by omega)
          have d1' : decide (en ≤ 65536) = true := decide_eq_true hc.1
          have d2 : decide ((y : Int) ≤ (en : Int)) = true := decide_eq_true (by omega)
          have d2' : decide (y ≤ en) = true := decide_eq_true hc.2.1
          have d3 : decide ((x : Int) < (y : Int)) = true := decide_eq_true (by omega)
          have d3' : decide (x < y) = true := decide_eq_true hc.2.2
          have HTJ := hid (HTT.out.trans (if_pos hc))
          have hxy := hc.2.2
          have hy6 : y ≤ 65536 := Nat.le_trans hc.2.1 hc.1
          clear hc
          go_wp2_with (first
            | ((with_reducible refine at_slot 51 ?_); refine wpList_load_row rfl 81 (.tmp 11) rfl gb rfl _ #[.int .i64 (x : Int), .int .i64 (y : Int)] _ _ hgb Try.underlying81 rfl info_runs ?_))
          (with_reducible refine Calls.mono (HJ.out k rs' x y _ hlt hi.out BRc.out hxy hy6) ?_)
          rintro e w3 ⟨rfl, hb3, m3⟩
          have B3 := hid hb3
          have M3 := hid (Mc.out.trans m3)
          clear hb3 m3
          go_wp2_with fail
          go_roundw
          case rel => exact ⟨k + 1, joinR rs' (x, y), by omega, by go_num, hid HTJ.out.symm, hid (by rw [← HTJ.out]; exact HI2.out), B3, M3⟩
          case measure => simp [intOf]; omega
        · have HTJ := hid (HTT.out.trans (if_neg hc))
          by_cases c1 : en ≤ 65536
          · have d1 : decide ((en : Int) ≤ 65536) = true := decide_eq_true (by omega)
            have d1' : decide (en ≤ 65536) = true := decide_eq_true c1
            by_cases c2 : y ≤ en
            · have d2 : decide ((y : Int) ≤ (en : Int)) = true := decide_eq_true (by omega)
              have d2' : decide (y ≤ en) = true := decide_eq_true c2
              have d3 : decide ((x : Int) < (y : Int)) = false := decide_eq_false (by omega)
              have d3' : decide (x < y) = false := decide_eq_false (by omega)
              clear hc c1 c2
              go_wp2_with fail
              go_roundw
              case rel => exact ⟨k + 1, rs', by omega, by go_num, hid HTJ.out.symm, hid (by rw [← HTJ.out]; exact HI2.out), BRc, Mc⟩
              case measure => simp [intOf]; omega
            · have d2 : decide ((y : Int) ≤ (en : Int)) = false := decide_eq_false (by omega)
              have d2' : decide (y ≤ en) = false := decide_eq_false c2
              clear hc c1 c2
              go_wp2_with fail
              go_roundw
              case rel => exact ⟨k + 1, rs', by omega, by go_num, hid HTJ.out.symm, hid (by rw [← HTJ.out]; exact HI2.out), BRc, Mc⟩
              case measure => simp [intOf]; omega
          · have d1 : decide ((en : Int) ≤ 65536) = false := decide_eq_false (by omega)
            have d1' : decide (en ≤ 65536) = false := decide_eq_false c1
            clear hc c1
            go_wp2_with fail
            go_roundw
            case rel => exact ⟨k + 1, rs', by omega, by go_num, hid HTJ.out.symm, hid (by rw [← HTJ.out]; exact HI2.out), BRc, Mc⟩
            case measure => simp [intOf]; omega
    · obtain rfl : k = bs.length := by omega
      rw [List.take_length] at he
      have hor := HOK.out _ _ hi.out
      have hrl := hor.1
      have hsl := sumR_le rs' hor.2 rs'.length
      rw [List.take_length] at hsl
      have hs2 : sumR rs' ≤ 4294967296 := Nat.le_trans hsl (by omega)
      have HBy2 := hid (bytes_any g f rs' wr hbr.out hor)
      obtain ⟨sn, hsn⟩ : ∃ n, sumR rs' = n := ⟨_, rfl⟩
      rw [hsn] at HBy2 hs2
      have HSN := hid hsn
      clear hor hsl hrl hsn
      go_wp2_with fail
      (with_reducible refine Calls.mono HBy2.out ?_)
      rintro e w5 ⟨rfl, hb5⟩
      have HB5 := hid hb5
      clear hb5
      go_wp2_with fail
      go_ret
      rw [← he.out, HSN.out]
      exact ⟨rfl, hbr.out.below HB5.out, hi.out, hm.out.trans ((Mod.of_below HB5.out).sub (by simp))⟩
end Go.Proofs.Ytblkfpipmdfmkaa
