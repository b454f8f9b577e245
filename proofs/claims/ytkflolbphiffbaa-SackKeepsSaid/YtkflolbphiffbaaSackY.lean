/- Walk of the law SackHoles. -/
import Derived.Test.YtkflolbphiffbaaSackX
import Derived.Deep.DeepCutAuto
namespace Go.Proofs.Ytkflolbphiffbaa
set_option linter.unusedVariables false
set_option linter.unusedSimpArgs false
open Go.RowKit

theorem left_at (f : Nat) (rs : List (Nat × Nat)) (k : Nat) (h : k < rs.length) : ((rs.map (blkOf f)).getD k (0, 0)).1 = (f + (rs.getD k (0, 0)).1) % 4294967296 := by
  simp [List.getD_eq_getElem?_getD, List.getElem?_eq_getElem h, blkOf]
theorem right_at (f : Nat) (rs : List (Nat × Nat)) (k : Nat) (h : k < rs.length) : ((rs.map (blkOf f)).getD k (0, 0)).2 = (f + (rs.getD k (0, 0)).2) % 4294967296 := by
  simp [List.getD_eq_getElem?_getD, List.getElem?_eq_getElem h, blkOf]
theorem any_take (rs : List (Nat × Nat)) (k : Nat) (p : Nat × Nat → Bool) (h : k < rs.length) : (rs.take (k + 1)).any p = ((rs.take k).any p || p (rs.getD k (0, 0))) := by
  rw [List.take_add_one, List.any_append]
  simp [List.getD_eq_getElem?_getD, List.getElem?_eq_getElem h]
theorem add_real (g f next : Nat) (rs bs : List (Nat × Nat)) (A : Option Addr) (c : Nat) (w : World) (h : Brd w g f rs) (ha : Apart rs) (hf : f < 4294967296) (hn : next < 4294967296) (hrow : Row w 2 A bs.length c (bcs bs)) (hrw : ∀ W', Mod [g] w W' → Row W' 2 A bs.length c (bcs bs)) (hB : OkB bs) :
    Calls Try.prog 10 #[.pointer (some ⟨g, 0, none⟩), .int .u32 (next : Int), .slice A bs.length c] w fun e w' =>
      ∃ z : Int, e = .returned (.int .i64 z) ∧ Brd w' g f (addR f (aheadS f next) rs bs) ∧ Mod [g] w w' := by
  refine Calls.mono (add_any g f next rs bs A c w h hf hn hrow hrw hB (fun _ rs' => Apart rs') ha (fun _ _ h => h.ok) (fun k rs' _ h => addR1_apart _ _ _ _ h)
    (fun k rs' x y W _ hi hb hx hy => join_any inserts g f x y rs' W hb hi hx hy)) ?_
  rintro e w' ⟨rfl, hb, _, hm⟩
  exact ⟨_, rfl, hb, hm⟩
theorem holeS_all (f : Nat) (rs : List (Nat × Nat)) (m : Int) (hf : f < 4294967296) : holeS f rs f ((f + 65536) % 4294967296) m = if m < 1 then none else holeR rs 0 65536 m.toNat := by
  have h1 : aheadS f f = 0 := by unfold aheadS; omega
  have h2 : aheadS f ((f + 65536) % 4294967296) = 65536 := by unfold aheadS; omega
  unfold holeS
  rw [h1, h2]
  rfl
set_option maxRecDepth 20000 in
set_option maxHeartbeats 4000000 in
theorem lawHoles_any (f : Nat) (A : Option Addr) (c : Nat) (ss : List StpD) (m : Int) (w : World) (hf : f < 4294967296) (h : SRow w A c ss) (hm : m ≤ 9223372036854775807) :
    Calls Try.prog 3 #[.int .u32 (f : Int), .slice A ss.length c, .int .i64 m] w fun e w' => e = .returned (.bool true) ∧ Below w.heap.size w w' := by
  have HN := hid (new_any f w)
  have HF := hid fun W (h : SRow W A c ss) => far_any A c ss W h
  have HS := hid fun W => short_any A ss.length c W h.row.cap h.row.top
  have hl : min ss.length 24 = (ss.take 24).length := by rw [List.length_take]; omega
  have hl2 : (ss.take 24).length ≤ 24 := by rw [List.length_take]; omega
  rw [hl] at HS
  have H0 := hid h
  have H1 := hid (h.take 24)
  clear h hl
  go_enter Try.func3, Try.ntmps3
  go_wp2_with fail
  (with_reducible refine Calls.mono HN.out ?_)
  rintro e w1 ⟨rfl, hbr1, hb1⟩
  go_wp2_with fail
  (with_reducible refine Calls.mono (HF.out w1 (H0.out.below hb1)) ?_)
  rintro e w2 ⟨t, rfl, hb2⟩
  have hbr2 := hbr1.below hb2
  have hB2 := below_after hb1 hb2 (Nat.le_refl _)
  clear hb1 hb2 hbr1
  cases t
  · go_wp2_with fail
    (with_reducible refine Calls.mono (HS.out _) ?_)
    rintro e w3 ⟨rfl, rfl⟩
    generalize ss.take 24 = ts at H1 hl2 ⊢
    clear HN HF HS H0
    go_wp2_with fail
    obtain ⟨g, hg⟩ : ∃ g, w.heap.size = g := ⟨_, rfl⟩
    have HG := hid hg
    rw [hg] at hbr2 ⊢
    clear hg
    go_loopw [35] (fun i wr => ∃ (k : Nat) (rs : List (Nat × Nat)), k ≤ ts.length ∧ i = .int .i64 k ∧ Brd wr g f rs ∧ Apart rs ∧ Below g w wr) (fun i _ => ts.length - (intOf i).toNat)
    case atStart => exact ⟨0, [], Nat.zero_le _, rfl, hbr2, trivial, by rw [← HG.out]; exact hB2⟩
    case round =>
      obtain ⟨k, rs, hk, rfl, hbr, ha, hb⟩ := hrel
      clear hB2 hbr2
      by_cases hlt : k < ts.length
      · have hrow := (H1.out.below (HG.out.symm ▸ hb)).row
        obtain ⟨a, rfl⟩ := hrow.addr (by rw [scs_length]; omega)
        obtain ⟨l0, l1, l2, l3, l4⟩ := hrow.stp k hlt _ rfl
        obtain ⟨r1, r2, r3, r4, r5⟩ := H1.out.get k hlt
        generalize ts.getD k default = s at l0 l1 l2 l3 l4 r1 r2 r3 r4 r5
        have HB := hid hb
        have HBR := hid hbr
        have HA := hid ha
        have R4 := hid r4
        have R5 := hid r5
        clear hrow hb hbr ha r4 r5
        go_wp2_with fail
        have hb1 := HB.out.alloc (by rw [← HG.out]; have := HB.out.size; have := HG.out; omega) (.cells #[.int .u8 (s.k : Int), .int .u32 (s.nx : Int), .int .u32 (s.fr : Int), .int .i64 s.ms, .slice s.A s.bs.length s.c] 31)
        have hr1 := R4.out.below (HG.out.symm ▸ hb1)
        (with_reducible refine Calls.mono (add_real g f s.nx rs s.bs s.A s.c _ (HBR.out.below (bl1 _ _)) HA.out hf r2 hr1 (fun W' hm => R4.out.below (HG.out.symm ▸ Mod.below hb1 hm (Nat.le_of_eq HG.out.symm) (by simp))) R5.out) ?_)
        rintro e w4 ⟨z, rfl, hbr4, hm4⟩
        have hb4 := hid (Mod.below hb1 hm4 (Nat.le_of_eq HG.out.symm) (by simp))
        have ha4 := hid (addR_apart f (aheadS f s.nx) s.bs rs HA.out)
        have HBR4 := hid hbr4
        clear hb1 hr1 hm4 l0 l1 l2 l3 l4 hbr4
        go_wp2_with fail
        go_roundw
        case rel => exact ⟨k + 1, _, by omega, by go_num, HBR4.out, ha4.out, hb4.out⟩
        case measure => simp [intOf]; omega
      · obtain rfl : k = ts.length := by omega
        have hnx : ((f : Int) + 65536) % 4294967296 = (((f + 65536) % 4294967296 : Nat) : Int) := by omega
        have hnl : (f + 65536) % 4294967296 < 4294967296 := Nat.mod_lt _ (by decide)
        have HH := hid (hole_any g f rs f ((f + 65536) % 4294967296) m wr hbr ha.ok hf hf hnl hm)
        have HBL := hid fun W (h : Brd W g f rs) => blocks_any g f rs W h ha.ok hf
        have HHAS := hid fun W (h : Brd W g f rs) n (hn : n < 4294967296) => has_any g f rs n W h ha.ok hf hn
        have HHOLE := hid (holeS_all f rs m hf)
        generalize (f + 65536) % 4294967296 = nx at hnx hnl HH HHOLE
        generalize holeS f rs f nx m = hv at HH HHOLE
        go_wp2_with fail
        (with_reducible refine Calls.mono HH.out ?_)
        rintro e w4 ⟨rfl, hb4⟩
        have hbr4 := hbr.below hb4
        have hB4 := below_after hb hb4 (Nat.le_of_eq HG.out.symm)
        clear hb hb4 hbr HH
        have hcs := hole_cases rs m hv ha HHOLE.out
        clear HHOLE
        rcases hcs with ⟨rfl, hno⟩ | ⟨hm1, hho, k, t, n, rfl, hkt, ht6, hn1, hnm, hkn, hor, hat, hht, hnone⟩
        · unfold holeV
          go_wp2_with fail
          (with_reducible refine Calls.mono (HBL.out _ hbr4) ?_)
          rintro e w5 ⟨v, rfl, ho5, hb5⟩
          obtain ⟨A5, c5, rfl, hrow5⟩ := Row.of_own ho5
          have hB5 := below_after hB4 hb5 (Nat.le_of_eq HG.out.symm)
          obtain ⟨hh, hhd⟩ : ∃ b, Holes rs = b := ⟨_, rfl⟩
          have hx1 : (!hh || decide (m < 1)) = true := by rw [hhd] at hno; rcases hno with h | h <;> simp [h]
          have hrs := ha.ok
          rw [holes_eq rs] at hhd
          rcases Nat.lt_or_ge 1 rs.length with hn1 | hn1
          · have d1 : decide ((1 : Int) < (rs.length : Int)) = true := decide_eq_true (by omega)
            have d2 : decide (1 < rs.length) = true := decide_eq_true hn1
            have d3 : decide ((0 : Int) < (rs.length : Int)) = true := decide_eq_true (by omega)
            have d4 : decide (0 < rs.length) = true := decide_eq_true (by omega)
            rw [d2, d4] at hhd
            obtain rfl : true = hh := by simpa using hhd
            obtain hml : decide (m < 1) = true := by simpa using hx1
            have HB5 := hid hB5
            clear hhd hx1 ho5 hb5 hno
            go_wp2_with fail
            (with_reducible refine Calls.mono (alive24_any _) ?_)
            rintro e w6 ⟨rfl, hb6⟩
            go_wp2_with fail
            go_ret
            exact ⟨rfl, by rw [HG.out]; exact below_after HB5.out hb6 (Nat.le_of_eq HG.out.symm)⟩
          · rcases Nat.eq_zero_or_pos rs.length with hn0 | hn0
            · have d1 : decide ((0 : Int) < (rs.length : Int)) = false := decide_eq_false (by omega)
              have d2 : decide (0 < rs.length) = false := decide_eq_false (by omega)
              rw [d2] at hhd
              obtain rfl : false = hh := by simpa using hhd
              have HB5 := hid hB5
              clear hhd hx1 ho5 hb5 hno
              go_wp2_with fail
              (with_reducible refine Calls.mono (alive24_any _) ?_)
              rintro e w6 ⟨rfl, hb6⟩
              go_wp2_with fail
              go_ret
              exact ⟨rfl, by rw [HG.out]; exact below_after HB5.out hb6 (Nat.le_of_eq HG.out.symm)⟩
            · have d1 : decide ((1 : Int) < (rs.length : Int)) = false := decide_eq_false (by omega)
              have d2 : decide (1 < rs.length) = false := decide_eq_false (by omega)
              have d3 : decide ((0 : Int) < (rs.length : Int)) = true := decide_eq_true (by omega)
              have d4 : decide (0 < rs.length) = true := decide_eq_true (by omega)
              rw [d2, d4] at hhd
              obtain ⟨a5, rfl⟩ := hrow5.addr (by rw [bcs_length, List.length_map]; omega)
              obtain ⟨l1, l2⟩ := hrow5.blk 0 (by rw [List.length_map]; omega)
              have l3 : w5.cell? a5 = _ := l1
              clear l2
              obtain ⟨y, hy⟩ : ∃ y, (rs.getD 0 (0, 0)).1 = y := ⟨_, rfl⟩
              have hy2 : y ≤ 65536 := by
                have e : rs.getD 0 (0, 0) = rs[0] := by simp [List.getD_eq_getElem?_getD, List.getElem?_eq_getElem hn0]
                have := hrs.2 _ (List.getElem_mem hn0)
                rw [← hy, e]
                omega
              rw [hy] at hhd
              have hl3 : ((rs.map (blkOf f)).getD 0 (0, 0)).1 = (f + y) % 4294967296 := by rw [left_at f rs 0 hn0, hy]
              rw [hl3] at l3
              obtain ⟨bl, hbl⟩ : ∃ bl, (f + y) % 4294967296 = bl := ⟨_, rfl⟩
              have e1 : decide (y ≠ 0) = decide (bl ≠ f) := by rw [decide_eq_decide]; omega
              rw [e1] at hhd
              rw [hbl] at l3
              have hx2 : decide (bl ≠ f) = hh := by simpa using hhd
              obtain ⟨nh, hnh⟩ : ∃ nh, (!hh) = nh := ⟨_, rfl⟩
              have hx3 : ((bl : Int) != (f : Int)) = hh := by
                rw [← hx2]
                cases hd : decide (bl ≠ f)
                · have := of_decide_eq_false hd
                  simp; omega
                · have := of_decide_eq_true hd
                  simp; omega
              have HB5 := hid hB5
              clear l1 e1 hhd hbl hy hy2 ho5 hb5 hno hl3
              clear hx2
              cases hh
              · obtain rfl : nh = true := hnh.symm
                clear hx1
                go_wp2_with fail
                (with_reducible refine Calls.mono (alive24_any _) ?_)
                rintro e w6 ⟨rfl, hb6⟩
                go_wp2_with fail
                go_ret
                exact ⟨rfl, by rw [HG.out]; exact below_after HB5.out hb6 (Nat.le_of_eq HG.out.symm)⟩
              · obtain rfl : nh = false := hnh.symm
                obtain hml : decide (m < 1) = true := by simpa using hx1
                clear hx1
                go_wp2_with fail
                (with_reducible refine Calls.mono (alive24_any _) ?_)
                rintro e w6 ⟨rfl, hb6⟩
                go_wp2_with fail
                go_ret
                exact ⟨rfl, by rw [HG.out]; exact below_after HB5.out hb6 (Nat.le_of_eq HG.out.symm)⟩
        · obtain ⟨at0, hat0⟩ : ∃ x, (f + k) % 4294967296 = x := ⟨_, rfl⟩
          obtain ⟨q0, hq0⟩ : ∃ x, (f + (k + n)) % 4294967296 = x := ⟨_, rfl⟩
          obtain ⟨q1, hq1⟩ : ∃ x, (f + (k + n - 1)) % 4294967296 = x := ⟨_, rfl⟩
          have hhv : holeV f (some (k, n)) = .tuple #[.int .u32 (at0 : Int), .int .i64 (n : Int), .bool true] := by rw [← hat0]; rfl
          rw [hhv]
          clear hhv
          go_wp2_with fail
          (with_reducible refine Calls.mono (HBL.out _ hbr4) ?_)
          rintro e w5 ⟨v, rfl, ho5, hb5⟩
          obtain ⟨A5, c5, rfl, hrow5⟩ := Row.of_own ho5
          have hbr5 := hbr4.below hb5
          have hB5 := below_after hB4 hb5 (Nat.le_of_eq HG.out.symm)
          obtain ⟨i1, hi1, hi2⟩ := hat
          have hrs := ha.ok
          have hat0l : at0 < 4294967296 := by omega
          have hq0l : q0 < 4294967296 := by omega
          have hq1l : q1 < 4294967296 := by omega
          have HA0 := hid fun W h => HHAS.out W h at0 hat0l
          have HA1 := hid fun W h => HHAS.out W h q1 hq1l
          have HA2 := hid fun W h => HHAS.out W h q0 hq0l
          rw [show (at0 + 4294967296 - f) % 4294967296 = k by omega, hnone k (Nat.le_refl _) hkt] at HA0
          rw [show (q1 + 4294967296 - f) % 4294967296 = k + n - 1 by omega, hnone (k + n - 1) (by omega) (by omega)] at HA1
          rw [show (q0 + 4294967296 - f) % 4294967296 = k + n by omega] at HA2
          have c1 : (n : Int) % 4294967296 = (n : Int) := by omega
          have c2 : ((at0 : Int) + (n : Int)) % 4294967296 = (q0 : Int) := by omega
          have c3 : ((q0 : Int) - 1) % 4294967296 = (q1 : Int) := by omega
          have c4 : ((at0 : Int) - (f : Int)) % 4294967296 = (k : Int) := by omega
          have c5' : ((k : Int) + (n : Int)) % 4294967296 = ((k + n : Nat) : Int) := by omega
          have t1 : decide ((n : Int) < 1) = false := decide_eq_false (by omega)
          have t2 : decide (m < (n : Int)) = false := decide_eq_false (by omega)
          have t3 : decide (n < 1) = false := decide_eq_false (by omega)
          have HBR5 := hid hbr5
          have HB5 := hid hB5
          have HRW5 := hid hrow5
          have hor2 : (n : Int) = m ∨ hasR rs (k + n) = true := by
            rcases hor with h | h
            · exact .inl h
            · rw [h]; exact .inr hht
          have hany : rs.any (fun x => decide (k + n ≤ x.1)) = true := by
            refine List.any_eq_true.2 ⟨rs.getD i1 (0, 0), ?_, ?_⟩
            · simp [List.getD_eq_getElem?_getD, List.getElem?_eq_getElem hi1]
            · rw [hi2]; exact decide_eq_true hkn
          rw [holes_eq rs] at hho
          obtain ⟨kn, hknd⟩ : ∃ x, k + n = x := ⟨_, rfl⟩
          rw [hknd] at c5' HA2 hor2 hany
          have hkn6 : kn < 65536 := by omega
          clear hat0 hq0 hq1 hnone hor hht hi1 hi2 HHAS hbr4 hbr5 hB5 hB4 hb5 ho5 hkt hkn hknd ht6 hnx hnl hat0l hq0l hq1l
          have hn0 : 0 < rs.length := by
            rcases Nat.eq_zero_or_pos rs.length with h | h
            · rw [h] at hho; simp at hho
            · exact h
          have d3 : decide ((0 : Int) < (rs.length : Int)) = true := decide_eq_true (by omega)
          have d4 : decide (0 < rs.length) = true := decide_eq_true (by omega)
          go_upto_region 12 with fail
          go_cut [15] (fun s15 wx => s15 = .bool true ∧ wx = w5)
          case first =>
            rcases Nat.lt_or_ge 1 rs.length with hn2 | hn2
            · have d1 : decide ((1 : Int) < (rs.length : Int)) = true := decide_eq_true (by omega)
              have d2 : decide (1 < rs.length) = true := decide_eq_true hn2
              clear hho hrow5 hor2 hany
              go_wp2_with fail
              go_meet
              case rel => exact ⟨rfl, rfl⟩
            · have d1 : decide ((1 : Int) < (rs.length : Int)) = false := decide_eq_false (by omega)
              have d2 : decide (1 < rs.length) = false := decide_eq_false (by omega)
              rw [d2, d4] at hho
              obtain ⟨a5, rfl⟩ := hrow5.addr (by rw [bcs_length, List.length_map]; omega)
              obtain ⟨l1, l2⟩ := hrow5.blk 0 (by rw [List.length_map]; omega)
              have l3 : w5.cell? a5 = _ := l1
              obtain ⟨y, hy⟩ : ∃ y, (rs.getD 0 (0, 0)).1 = y := ⟨_, rfl⟩
              have hy2 : y ≤ 65536 := by
                have e : rs.getD 0 (0, 0) = rs[0] := by simp [List.getD_eq_getElem?_getD, List.getElem?_eq_getElem hn0]
                have := hrs.2 _ (List.getElem_mem hn0)
                rw [← hy, e]
                omega
              rw [hy] at hho
              have hl3 : ((rs.map (blkOf f)).getD 0 (0, 0)).1 = (f + y) % 4294967296 := by rw [left_at f rs 0 hn0, hy]
              rw [hl3] at l3
              obtain ⟨bl, hbl⟩ : ∃ bl, (f + y) % 4294967296 = bl := ⟨_, rfl⟩
              have hy0 : y ≠ 0 := by simpa using hho
              rw [hbl] at l3
              have hx3 : ((bl : Int) != (f : Int)) = true := by simp; omega
              clear l1 l2 hho hbl hy hy2 hl3 hy0 hrow5 hor2 hany
              go_wp2_with fail
              go_meet
              case rel => exact ⟨rfl, rfl⟩
          case rest =>
            obtain ⟨rfl, rfl⟩ := hcut
            clear hho hrow5
            go_wp2_with fail
            (with_reducible refine Calls.mono (HA0.out _ HBR5.out) ?_)
            rintro e w6 ⟨rfl, hb6⟩
            have HBR6 := hid (HBR5.out.below hb6)
            have HRW6 := hid (HRW5.out.below hb6)
            have HB6 := hid (below_after HB5.out hb6 (Nat.le_of_eq HG.out.symm))
            clear hb6 HBR5 HRW5 HB5 HA0
            go_wp2_with fail
            (with_reducible refine Calls.mono (HA1.out _ HBR6.out) ?_)
            rintro e w7 ⟨rfl, hb7⟩
            have HBR7 := hid (HBR6.out.below hb7)
            have HRW7 := hid (HRW6.out.below hb7)
            have HB7 := hid (below_after HB6.out hb7 (Nat.le_of_eq HG.out.symm))
            clear hb7 HBR6 HRW6 HB6 HA1
            have HOR := hid hor2
            have HANY := hid hany
            have HM1 := hid hm1
            have HNM := hid hnm
            have HKN6 := hid hkn6
            have HRS := hid hrs
            have hln := hrs.1
            clear hor2 hany hm1 hnm hkn6 hrs
            go_wp2_with fail
            go_loopw [16, 121] (fun v i wr => ∃ j : Nat, j ≤ rs.length ∧ i = .int .i64 j ∧ v = .bool ((rs.take j).any (fun x => decide (kn ≤ x.1))) ∧ Brd wr g f rs ∧ Row wr 2 A5 rs.length c5 (bcs (rs.map (blkOf f))) ∧ Below g w wr) (fun _ i _ => rs.length - (intOf i).toNat)
            case atStart => exact ⟨0, Nat.zero_le _, rfl, by simp, HBR7.out, HRW7.out, HB7.out⟩
            case round =>
              obtain ⟨j, hj, rfl, rfl, hbr, hrow, hb⟩ := hrel
              by_cases hlt : j < rs.length
              · obtain ⟨a5, rfl⟩ := hrow.addr (by rw [bcs_length, List.length_map]; omega)
                obtain ⟨l0, l1⟩ := hrow.blk j (by rw [List.length_map]; omega)
                rw [left_at f rs j hlt] at l0
                rw [right_at f rs j hlt] at l1
                have HTK := hid (any_take rs j (fun x => decide (kn ≤ x.1)) hlt)
                have hx6 : (rs.getD j (0, 0)).1 ≤ 65536 := by
                  have e : rs.getD j (0, 0) = rs[j] := by simp [List.getD_eq_getElem?_getD, List.getElem?_eq_getElem hlt]
                  have := HRS.out.2 _ (List.getElem_mem hlt)
                  rw [e]
                  omega
                generalize rs.getD j (0, 0) = xy at l0 l1 HTK hx6
                obtain ⟨x, y⟩ := xy
                simp only at l0 l1 hx6
                obtain ⟨bl, hbl⟩ : ∃ bl, (f + x) % 4294967296 = bl := ⟨_, rfl⟩
                obtain ⟨br, hbr0⟩ : ∃ br, (f + y) % 4294967296 = br := ⟨_, rfl⟩
                rw [hbl] at l0
                rw [hbr0] at l1
                have g1 : ((bl : Int) - (f : Int)) % 4294967296 = (x : Int) := by omega
                clear hbl hbr0 hx6
                generalize hbv : (rs.take j).any (fun x => decide (kn ≤ x.1)) = bv at HTK
                have HBV := hid hbv
                have HBR := hid hbr
                have HRW := hid hrow
                have HB := hid hb
                clear hbv hbr hrow hb
                have fin : ∀ (bx : Bool), bx = (bv || decide (kn ≤ x)) → Value.bool bx = .bool ((rs.take (j + 1)).any (fun x => decide (kn ≤ x.1))) := by
                  intro bx hbx
                  rw [HTK.out, hbx]
                have FIN := hid fin
                clear fin HTK HBV
                cases bv
                · go_wp2_with fail
                  go_roundw
                  case rel =>
                    exact ⟨j + 1, by omega, by go_num, FIN.out _ (by cases decide (kn ≤ x) <;> rfl), HBR.out.below (bl1 _ _), HRW.out.below (bl1 _ _), HB.out.alloc (by rw [← HG.out]; have := HB.out.size; omega) _⟩
                  case measure => simp [intOf]; omega
                · go_wp2_with fail
                  go_roundw
                  case rel =>
                    exact ⟨j + 1, by omega, by go_num, FIN.out true rfl, HBR.out.below (bl1 _ _), HRW.out.below (bl1 _ _), HB.out.alloc (by rw [← HG.out]; have := HB.out.size; omega) _⟩
                  case measure => simp [intOf]; omega
              · obtain rfl : j = rs.length := by omega
                rw [List.take_of_length_le (Nat.le_refl _), HANY.out]
                have HB := hid hb
                have HBR := hid hbr
                clear hb hrow hbr
                rcases HOR.out with h | h
                · subst h
                  go_wp2_with fail
                  (with_reducible refine Calls.mono (alive24_any _) ?_)
                  rintro e w8 ⟨rfl, hb8⟩
                  go_wp2_with fail
                  go_ret
                  exact ⟨rfl, by rw [HG.out]; exact below_after HB.out hb8 (Nat.le_of_eq HG.out.symm)⟩
                · by_cases hmm : (n : Int) = m
                  · subst hmm
                    go_wp2_with fail
                    (with_reducible refine Calls.mono (alive24_any _) ?_)
                    rintro e w8 ⟨rfl, hb8⟩
                    go_wp2_with fail
                    go_ret
                    exact ⟨rfl, by rw [HG.out]; exact below_after HB.out hb8 (Nat.le_of_eq HG.out.symm)⟩
                  · have hm2 : ((n : Int) == m) = false := by simpa using hmm
                    rw [h] at HA2
                    clear hmm h HOR
                    go_wp2_with fail
                    (with_reducible refine Calls.mono (HA2.out _ HBR.out) ?_)
                    rintro e w8 ⟨rfl, hb8⟩
                    have HB8 := hid (below_after HB.out hb8 (Nat.le_of_eq HG.out.symm))
                    clear hb8
                    go_wp2_with fail
                    (with_reducible refine Calls.mono (alive24_any _) ?_)
                    rintro e w9 ⟨rfl, hb9⟩
                    go_wp2_with fail
                    go_ret
                    exact ⟨rfl, by rw [HG.out]; exact below_after HB8.out hb9 (Nat.le_of_eq HG.out.symm)⟩
  · go_wp2_with fail
    (with_reducible refine Calls.mono (alive24_any _) ?_)
    rintro e w4 ⟨rfl, hb4⟩
    go_wp2_with fail
    go_ret
    exact ⟨rfl, below_after hB2 hb4 (Nat.le_refl _)⟩
end Go.Proofs.Ytkflolbphiffbaa
