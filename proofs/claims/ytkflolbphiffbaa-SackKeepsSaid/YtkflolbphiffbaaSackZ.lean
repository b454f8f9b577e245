/- Walk of the law SackKeeps. -/
import Derived.Test.YtkflolbphiffbaaSackY
import Derived.Deep.CutBlock
namespace Go.Proofs.Ytkflolbphiffbaa
set_option linter.unusedVariables false
set_option linter.unusedSimpArgs false
open Go.RowKit

/-- Where a number's Has stands. -/
def HasOf (f : Nat) (rs : List (Nat × Nat)) (n : Nat) : Prop := n < 4294967296 ∧ (aheadS f n < 65536 → hasR rs (aheadS f n) = true)
theorem ends_of (f : Nat) (rs : List (Nat × Nat)) (h : Apart rs) (hf : f < 4294967296) (f' : Nat) (rs' : List (Nat × Nat)) (hk : Keeps f rs f' rs') (k : Nat) (hlt : k < rs.length) :
    HasOf f' rs' ((f + (rs.getD k (0, 0)).1) % 4294967296) ∧ HasOf f' rs' (((f + (rs.getD k (0, 0)).2) % 4294967296 + 4294967295) % 4294967296) := by
  obtain ⟨h1, h2⟩ := ends_has rs h k hlt
  have e : rs.getD k (0, 0) = rs[k] := by simp [List.getD_eq_getElem?_getD, List.getElem?_eq_getElem hlt]
  have hm := h.mem _ (List.getElem_mem hlt)
  rw [← e] at hm
  generalize rs.getD k (0, 0) = z at *
  obtain ⟨x, y⟩ := z
  simp only at *
  refine ⟨⟨Nat.mod_lt _ (by decide), fun h3 => hk _ (Nat.mod_lt _ (by decide)) ?_ h3⟩, ⟨Nat.mod_lt _ (by decide), fun h3 => hk _ (Nat.mod_lt _ (by decide)) ?_ h3⟩⟩
  · rw [ahead_of f x hf (by omega)]
    exact h1
  · rw [ahead_pred f y hf (by omega) (by omega)]
    exact h2
def endR (rs : List (Nat × Nat)) : Nat → Nat
  | 0 => 0
  | k + 1 => (rs.getD k (0, 0)).2
theorem mem_at {rs : List (Nat × Nat)} (h : Apart rs) (k : Nat) (hk : k < rs.length) : (rs.getD k (0, 0)).1 < (rs.getD k (0, 0)).2 ∧ (rs.getD k (0, 0)).2 ≤ 65536 := by
  have e : rs.getD k (0, 0) = rs[k] := by simp [List.getD_eq_getElem?_getD, List.getElem?_eq_getElem hk]
  rw [e]
  exact h.mem _ (List.getElem_mem hk)
theorem endR_lt {rs : List (Nat × Nat)} (h : Apart rs) (k : Nat) (hk : k < rs.length) (h0 : 0 < k) : endR rs k < (rs.getD k (0, 0)).1 := by
  cases k with
  | zero => omega
  | succ k => exact h.getD k (k + 1) (by omega) hk
set_option maxRecDepth 20000 in
set_option maxHeartbeats 8000000 in
theorem lawKeeps_any (f : Nat) (A : Option Addr) (c : Nat) (ss : List StpD) (w : World) (hf : f < 4294967296) (h : SRow w A c ss) :
    Calls Try.prog 4 #[.int .u32 (f : Int), .slice A ss.length c] w fun e w' => e = .returned (.bool true) ∧ Below w.heap.size w w' := by
  have HN := hid (new_any f w)
  have HF := hid fun W (h : SRow W A c ss) => far_any A c ss W h
  have HS := hid fun W => short_any A ss.length c W h.row.cap h.row.top
  have hl : min ss.length 24 = (ss.take 24).length := by rw [List.length_take]; omega
  have hl2 : (ss.take 24).length ≤ 24 := by rw [List.length_take]; omega
  rw [hl] at HS
  have H0 := hid h
  have H1 := hid (h.take 24)
  clear h hl
  go_enter Try.func4, Try.ntmps4
  go_wp2_with fail
  (with_reducible refine Calls.mono HN.out ?_)
  rintro e w1 ⟨rfl, hbr1, hb1⟩
  go_wp2_with fail
  (with_reducible refine Calls.mono (HF.out w1 (H0.out.below hb1)) ?_)
  rintro e w2 ⟨t, rfl, hb2⟩
  have hbr2 := hbr1.below hb2
  have hB2 := below_after hb1 hb2 (Nat.le_refl _)
  clear hb1 hb2 hbr1
  cases t
  · go_wp2_with fail
    (with_reducible refine Calls.mono (HS.out _) ?_)
    rintro e w3 ⟨rfl, rfl⟩
    generalize ss.take 24 = ts at H1 hl2 ⊢
    clear HN HF HS H0
    go_wp2_with fail
    obtain ⟨g, hg⟩ : ∃ g, w.heap.size = g := ⟨_, rfl⟩
    have HG := hid hg
    rw [hg] at hbr2 ⊢
    clear hg
    go_loopw [35] (fun i wr => ∃ (k f' : Nat) (rs : List (Nat × Nat)), k ≤ ts.length ∧ f' < 4294967296 ∧ i = .int .i64 k ∧ Brd wr g f' rs ∧ Apart rs ∧ Below g w wr) (fun i _ => ts.length - (intOf i).toNat)
    case atStart => exact ⟨0, f, [], Nat.zero_le _, hf, rfl, hbr2, trivial, by rw [← HG.out]; exact hB2⟩
    case round =>
      obtain ⟨k, f', rs, hk, hf', rfl, hbr, ha, hb⟩ := hrel
      clear hB2 hbr2
      by_cases hlt : k < ts.length
      · have hrow := (H1.out.below (HG.out.symm ▸ hb)).row
        obtain ⟨a, rfl⟩ := hrow.addr (by rw [scs_length]; omega)
        obtain ⟨l0, l1, l2, l3, l4⟩ := hrow.stp k hlt _ rfl
        obtain ⟨r1, r2, r3, r4, r5⟩ := H1.out.get k hlt
        generalize ts.getD k default = s at l0 l1 l2 l3 l4 r1 r2 r3 r4 r5
        have HB := hid hb
        have HBR := hid hbr
        have HA := hid ha
        have HBL := hid fun W (h : Brd W g f' rs) => blocks_any g f' rs W h ha.ok hf'
        have R4 := hid r4
        have R5 := hid r5
        clear hrow hb hbr ha r4 r5
        go_wp2_with fail
        have hb1 := HB.out.alloc (by rw [← HG.out]; have := HB.out.size; have := HG.out; omega) (.cells #[.int .u8 (s.k : Int), .int .u32 (s.nx : Int), .int .u32 (s.fr : Int), .int .i64 s.ms, .slice s.A s.bs.length s.c] 31)
        have hbr1 := HBR.out.below (bl1 wr (.cells #[.int .u8 (s.k : Int), .int .u32 (s.nx : Int), .int .u32 (s.fr : Int), .int .i64 s.ms, .slice s.A s.bs.length s.c] 31))
        (with_reducible refine Calls.mono (HBL.out _ hbr1) ?_)
        rintro e w5 ⟨v, rfl, ho5, hb5⟩
        have hgl : g < (wr.alloc (.cells #[.int .u8 (s.k : Int), .int .u32 (s.nx : Int), .int .u32 (s.fr : Int), .int .i64 s.ms, .slice s.A s.bs.length s.c] 31)).heap.size := hbr1.lt
        have hsn := nw1 wr (.cells #[.int .u8 (s.k : Int), .int .u32 (s.nx : Int), .int .u32 (s.fr : Int), .int .i64 s.ms, .slice s.A s.bs.length s.c] 31)
        have hgw : g ≠ wr.heap.size := fun e => by have := HBR.out.lt; omega
        have hsl := (Array.getElem?_eq_some_iff.1 hsn).1
        have hs5 := (hb5.block _ hsl).trans hsn
        have hbr5 := hbr1.below hb5
        have hB5 := below_after hb1 hb5 (Nat.le_of_eq HG.out.symm)
        generalize (wr.alloc _).heap.size = nb at ho5 hgl hsl
        generalize wr.heap.size = sb at hs5 hsl hgw
        clear hsn hb1 hbr1 hb5 l0 l1 l2 l3 l4 HBR HB
        have x0 := cellRow hs5 0
        have x1 := cellRow hs5 1
        have x4 := cellRow hs5 4
        simp only [List.getElem?_toArray, List.getElem?_cons_succ, List.getElem?_cons_zero] at x0 x1 x4
        obtain ⟨q, hq, hq5⟩ : ∃ q : Nat, ((s.k : Int)) % 5 = (q : Int) ∧ q < 5 := ⟨s.k % 5, by omega, by omega⟩
        have HBR5 := hid hbr5
        have HB5 := hid hB5
        have HO5 := hid ho5
        have HRW := hid fun W (h : Below g w W) => R4.out.below (HG.out.symm ▸ h)
        clear hbr5 hB5 ho5 R4
        go_upto_block 2 with fail
        go_cut [] (fun wx => ∃ (f6 : Nat) (rs6 : List (Nat × Nat)), f6 < 4294967296 ∧ Brd wx g f6 rs6 ∧ Apart rs6 ∧ Keeps f' rs f6 rs6 ∧ wx.ownsRow nb 37 2 v rs.length (bcs (rs.map (blkOf f'))) ∧ Below g w wx)
        case first =>
          have HADD := hid (add_real g f' s.nx rs s.bs s.A s.c _ HBR5.out HA.out hf' r2 (HRW.out _ HB5.out) (fun W' hm => HRW.out _ (Mod.below HB5.out hm (Nat.le_of_eq HG.out.symm) (by simp))) R5.out)
          have HADV := hid (advance_any g f' s.nx rs _ HBR5.out HA.out.ok hf' r2)
          have HKA := hid (addR_apart f' (aheadS f' s.nx) s.bs rs HA.out)
          have HKK := hid (Keeps.add f' (aheadS f' s.nx) rs s.bs HA.out)
          obtain rfl | rfl | rfl | rfl | rfl : q = 0 ∨ q = 1 ∨ q = 2 ∨ q = 3 ∨ q = 4 := by omega
          · go_wp2_with fail
            (with_reducible refine Calls.mono HADD.out ?_)
            rintro e w6 ⟨z, rfl, hbr6, hm6⟩
            have hb6 := hid (Mod.below HB5.out hm6 (Nat.le_of_eq HG.out.symm) (by simp))
            have ho6 := hid (own_mod HO5.out hm6 (fun k hk => by simp at hk; omega))
            have HBR6 := hid hbr6
            clear hbr6 hm6 hq
            go_wp2_with fail
            go_meet
            case rel => exact ⟨f', _, hf', HBR6.out, HKA.out, HKK.out, ho6.out, hb6.out⟩
          · go_wp2_with fail
            (with_reducible refine Calls.mono HADV.out ?_)
            rintro e w6 (⟨hno, rfl, rfl⟩ | ⟨hyes, rfl, hbr6, hm6⟩)
            · clear hno hq
              go_wp2_with fail
              go_meet
              case rel => exact ⟨f', _, hf', HBR5.out, HA.out, Keeps.refl _ _, HO5.out, HB5.out⟩
            · have hb6 := hid (Mod.below HB5.out hm6 (Nat.le_of_eq HG.out.symm) (by simp))
              have ho6 := hid (own_mod HO5.out hm6 (fun k hk => by simp at hk; omega))
              have HBR6 := hid hbr6
              have HKV := hid (Keeps.adv f' s.nx rs HA.out.ok hf' r2 hyes.2)
              clear hbr6 hm6 hyes hq
              go_wp2_with fail
              go_meet
              case rel => exact ⟨s.nx, _, r2, HBR6.out, advR_apart _ _ HA.out, HKV.out, ho6.out, hb6.out⟩
          · go_wp2_with fail
            go_meet
            case rel => exact ⟨f', _, hf', HBR5.out, HA.out, Keeps.refl _ _, HO5.out, HB5.out⟩
          · go_wp2_with fail
            go_meet
            case rel => exact ⟨f', _, hf', HBR5.out, HA.out, Keeps.refl _ _, HO5.out, HB5.out⟩
          · go_wp2_with fail
            (with_reducible refine Calls.mono HADD.out ?_)
            rintro e w6 ⟨z, rfl, hbr6, hm6⟩
            have hb6 := hid (Mod.below HB5.out hm6 (Nat.le_of_eq HG.out.symm) (by simp))
            have ho6 := hid (own_mod HO5.out hm6 (fun k hk => by simp at hk; omega))
            have HBR6 := hid hbr6
            clear hbr6 hm6 hq
            go_wp2_with fail
            go_meet
            case rel => exact ⟨f', _, hf', HBR6.out, HKA.out, HKK.out, ho6.out, hb6.out⟩
        case rest =>
          obtain ⟨f6, rs6, hf6, hbr6, ha6, hk6, ho6, hb6⟩ := hcut
          have HENDS := hid (ends_of f' rs HA.out hf' f6 rs6 hk6)
          have HF6 := hid fun W (h : Brd W g f6 rs6) => first_any g f6 rs6 W h
          have HHAS := hid fun W (h : Brd W g f6 rs6) n (hn : n < 4294967296) => has_any g f6 rs6 n W h ha6.ok hf6 hn
          have HBL6 := hid fun W (h : Brd W g f6 rs6) => blocks_any g f6 rs6 W h ha6.ok hf6
          have HBY6 := hid fun W (h : Brd W g f6 rs6) => bytes_any g f6 rs6 W h ha6.ok
          have HA6 := hid ha6
          have HRL := hid HA.out.ok.1
          obtain ⟨A6, c6, rfl, hrow6⟩ := Row.of_own ho6
          have hln : rs.length ≤ 65536 := HA.out.ok.1
          clear hs5 x0 x1 x4 hq hq5 HBR5 HB5 HO5 HRW HA hk6 ha6 ho6 HBL
          go_wp2_with fail
          go_loopw [61] (fun i wr => ∃ j : Nat, j ≤ rs.length ∧ i = .int .i64 j ∧ Brd wr g f6 rs6 ∧ Row wr 2 A6 rs.length c6 (bcs (rs.map (blkOf f'))) ∧ Below g w wr) (fun i _ => rs.length - (intOf i).toNat)
          case atStart => exact ⟨0, Nat.zero_le _, rfl, hbr6, hrow6, hb6⟩
          case round =>
            obtain ⟨j, hj, rfl, hbr, hrow, hb⟩ := hrel
            clear hbr6 hrow6 hb6
            by_cases hjl : j < rs.length
            · obtain ⟨a6, rfl⟩ := hrow.addr (by rw [bcs_length, List.length_map]; omega)
              obtain ⟨l0, l1⟩ := hrow.blk j (by rw [List.length_map]; omega)
              rw [left_at f' rs j hjl] at l0
              rw [right_at f' rs j hjl] at l1
              obtain ⟨he0, he1⟩ := HENDS.out j hjl
              generalize (f' + (rs.getD j (0, 0)).1) % 4294967296 = e0 at l0 he0
              have hr1 : (f' + (rs.getD j (0, 0)).2) % 4294967296 < 4294967296 := Nat.mod_lt _ (by decide)
              generalize (f' + (rs.getD j (0, 0)).2) % 4294967296 = er at l1 he1 hr1
              have hr2 : ((er : Int) - 1) % 4294967296 = (((er + 4294967295) % 4294967296 : Nat) : Int) := by omega
              generalize (er + 4294967295) % 4294967296 = e1 at he1 hr2
              clear hr1
              have HBR := hid hbr
              have HRW := hid hrow
              have HB := hid hb
              have HE0 := hid he0
              have HE1 := hid he1
              clear hbr hrow hb he0 he1
              go_wp2_with fail
              have n2 := nw2 wr (.cells #[.int .u32 (e0 : Int), .int .u32 (er : Int)] 37) (.cells #[.int .u32 (e0 : Int), .int .u32 (e1 : Int)] 22)
              have y0 := cellRow n2 0
              have y1 := cellRow n2 1
              simp only [List.getElem?_toArray, List.getElem?_cons_succ, List.getElem?_cons_zero] at y0 y1
              have bl := bl2 wr (.cells #[.int .u32 (e0 : Int), .int .u32 (er : Int)] 37) (.cells #[.int .u32 (e0 : Int), .int .u32 (e1 : Int)] 22)
              have hbr2 := HBR.out.below bl
              have hrw2 := HRW.out.below bl
              have hb2 := below_after HB.out bl (Nat.le_of_eq HG.out.symm)
              clear n2 bl HBR HRW HB l0 l1 hr2
              generalize wr.heap.size + 1 = ab at y0 y1 ⊢
              generalize (wr.alloc _).alloc _ = W2 at y0 y1 hbr2 hrw2 hb2 ⊢
              have hE : ∀ i2, i2 < 2 → ∃ e : Nat, HasOf f6 rs6 e ∧ ∀ W' : World, W'.cell? ⟨ab, 0, none⟩ = some (.int .u32 (e0 : Int)) → W'.cell? ⟨ab, 1, none⟩ = some (.int .u32 (e1 : Int)) → W'.cell? ⟨ab, i2, none⟩ = some (.int .u32 (e : Int)) := by
                intro i2 hi2
                obtain rfl | rfl : i2 = 0 ∨ i2 = 1 := by omega
                · exact ⟨e0, HE0.out, fun W' h0 h1 => h0⟩
                · exact ⟨e1, HE1.out, fun W' h0 h1 => h1⟩
              have HE := hid hE
              clear hE HE0 HE1
              go_loopw [72] (fun i wr2 => ∃ i2 : Nat, i2 ≤ 2 ∧ i = .int .i64 i2 ∧ Brd wr2 g f6 rs6 ∧ Row wr2 2 (some a6) rs.length c6 (bcs (rs.map (blkOf f'))) ∧ Below g w wr2 ∧ wr2.cell? ⟨ab, 0, none⟩ = some (.int .u32 (e0 : Int)) ∧ wr2.cell? ⟨ab, 1, none⟩ = some (.int .u32 (e1 : Int))) (fun i _ => 2 - (intOf i).toNat)
              case atStart => exact ⟨0, by omega, rfl, hbr2, hrw2, hb2, y0, y1⟩
              case round =>
                obtain ⟨i2, hi2, rfl, hbr, hrow, hb, z0, z1⟩ := hrel
                clear hbr2 hrw2 hb2 y0 y1
                have HBR := hid hbr
                have HRW := hid hrow
                have HB := hid hb
                clear hbr hrow hb
                by_cases hil : i2 < 2
                · obtain ⟨e, ⟨he, hee⟩, hc⟩ := HE.out i2 hil
                  have hc0 := hc _ z0 z1
                  have tl : (i2 : Int) < 2 := by omega
                  have HIL := hid hil
                  clear hil hi2
                  obtain ⟨ah, hah⟩ : ∃ x, aheadS f6 e = x := ⟨_, rfl⟩
                  have hah2 : ((e : Int) - (f6 : Int)) % 4294967296 = (ah : Int) := by unfold aheadS at hah; omega
                  have HX := hid (HHAS.out _ HBR.out e he)
                  rw [show (e + 4294967296 - f6) % 4294967296 = ah from hah] at HX
                  rw [hah] at hee
                  clear hc hah
                  have HZ0 := hid z0
                  have HZ1 := hid z1
                  clear z0 z1
                  by_cases h6 : ah < 65536
                  · have hh := hee h6
                    rw [hh] at HX
                    have T6 := hid (show decide ((ah : Int) < 65536) = true from decide_eq_true (by omega))
                    clear hee hh h6
                    go_wp2_with fail
                    (with_reducible refine Calls.mono (HF6.out _ HBR.out) ?_)
                    rintro e' w7 ⟨rfl, rfl⟩
                    have t6 := T6.out
                    clear T6 hc0
                    go_wp2_with fail
                    (with_reducible refine Calls.mono HX.out ?_)
                    rintro e' w7 ⟨rfl, hb7⟩
                    go_wp2_with fail
                    go_roundw
                    case rel => exact ⟨i2 + 1, by have := HIL.out; omega, by have := HIL.out; go_num, HBR.out.below hb7, HRW.out.below hb7, below_after HB.out hb7 (Nat.le_of_eq HG.out.symm), keep_cell hb7 HZ0.out (World.block_lt_of_cell? _ _ HZ0.out), keep_cell hb7 HZ1.out (World.block_lt_of_cell? _ _ HZ1.out)⟩
                    case measure => have := HIL.out; simp [intOf]; omega
                  · have T6 := hid (show decide ((ah : Int) < 65536) = false from decide_eq_false (by omega))
                    clear hee HX h6
                    go_wp2_with fail
                    (with_reducible refine Calls.mono (HF6.out _ HBR.out) ?_)
                    rintro e' w7 ⟨rfl, rfl⟩
                    have t6 := T6.out
                    clear T6 hc0
                    go_wp2_with fail
                    go_roundw
                    case rel => exact ⟨i2 + 1, by have := HIL.out; omega, by have := HIL.out; go_num, HBR.out, HRW.out, HB.out, HZ0.out, HZ1.out⟩
                    case measure => have := HIL.out; simp [intOf]; omega
                · obtain rfl : i2 = 2 := by omega
                  go_wp2_with fail
                  go_roundw
                  case rel => exact ⟨j + 1, by omega, by go_num, HBR.out, HRW.out, HB.out⟩
                  case measure => simp [intOf]; omega
            · obtain rfl : j = rs.length := by omega
              have HBR := hid hbr
              have HB := hid hb
              clear hbr hb hrow
              go_wp2_with fail
              (with_reducible refine Calls.mono (HBL6.out _ HBR.out) ?_)
              rintro e w7 ⟨v7, rfl, ho7, hb7⟩
              obtain ⟨A7, c7, rfl, hrow7⟩ := Row.of_own ho7
              have HBR7 := hid (HBR.out.below hb7)
              have HB7 := hid (below_after HB.out hb7 (Nat.le_of_eq HG.out.symm))
              have HRW7 := hid hrow7
              have hl6 : rs6.length ≤ 65536 := HA6.out.ok.1
              clear hb7 ho7 hrow7 HBR HB HENDS HHAS HBL6
              go_wp2_with fail
              go_loopw [13, 14, 92] (fun s13 s14 i wr => ∃ j : Nat, j ≤ rs6.length ∧ i = .int .i64 j ∧ s13 = .int .i64 (sumR (rs6.take j)) ∧ s14 = .int .u32 (endR rs6 j) ∧ Brd wr g f6 rs6 ∧ Row wr 2 A7 rs6.length c7 (bcs (rs6.map (blkOf f6))) ∧ Below g w wr) (fun _ _ i _ => rs6.length - (intOf i).toNat)
              case atStart => exact ⟨0, Nat.zero_le _, rfl, rfl, rfl, HBR7.out, HRW7.out, HB7.out⟩
              case round =>
                obtain ⟨j7, hj7, rfl, rfl, rfl, hbr, hrow, hb⟩ := hrel
                clear HBR7 HRW7 HB7
                by_cases hlt7 : j7 < rs6.length
                · obtain ⟨a7, rfl⟩ := hrow.addr (by rw [bcs_length, List.length_map]; omega)
                  obtain ⟨l0, l1⟩ := hrow.blk j7 (by rw [List.length_map]; omega)
                  rw [left_at f6 rs6 j7 hlt7] at l0
                  rw [right_at f6 rs6 j7 hlt7] at l1
                  obtain ⟨hxy, hy6⟩ := mem_at HA6.out j7 hlt7
                  have hend := endR_lt HA6.out j7 hlt7
                  have hst := sumR_take rs6 j7 hlt7
                  have hsl := sumR_le rs6 HA6.out.ok.2 j7
                  have hnx : endR rs6 (j7 + 1) = (rs6.getD j7 (0, 0)).2 := rfl
                  generalize sumR (rs6.take j7) = sm at hst hsl ⊢
                  generalize endR rs6 j7 = en at hend ⊢
                  generalize (rs6.getD j7 (0, 0)).1 = x at *
                  generalize (rs6.getD j7 (0, 0)).2 = y at *
                  obtain ⟨bl, hbl⟩ : ∃ bl, (f6 + x) % 4294967296 = bl := ⟨_, rfl⟩
                  obtain ⟨br, hbr0⟩ : ∃ br, (f6 + y) % 4294967296 = br := ⟨_, rfl⟩
                  rw [hbl] at l0
                  rw [hbr0] at l1
                  have g1 : ((bl : Int) - (f6 : Int)) % 4294967296 = (x : Int) := by omega
                  have g2 : ((br : Int) - (f6 : Int)) % 4294967296 = (y : Int) := by omega
                  have HNX := hid hnx
                  have HST := hid hst
                  have HEND := hid hend
                  have HBR := hid hbr
                  have HRW := hid hrow
                  have HB := hid hb
                  have hsb : sm ≤ 4294967296 := Nat.le_trans hsl (by omega)
                  clear hbl hbr0 hnx hst hend hbr hrow hb hsl
                  go_wp2_with fail
                  have sn := nw1 wr (.cells #[.int .u32 (bl : Int), .int .u32 (br : Int)] 37)
                  have x0 := cellRow sn 0
                  have x1 := cellRow sn 1
                  simp only [List.getElem?_toArray, List.getElem?_cons_succ, List.getElem?_cons_zero] at x0 x1
                  have hxl := (Array.getElem?_eq_some_iff.1 sn).1
                  have bl' := bl1 wr (.cells #[.int .u32 (bl : Int), .int .u32 (br : Int)] 37)
                  have HBR2 := hid (HBR.out.below bl')
                  have HRW2 := hid (HRW.out.below bl')
                  have HB2 := hid (below_after HB.out bl' (Nat.le_of_eq HG.out.symm))
                  clear sn bl' l0 l1 HBR HRW HB
                  generalize wr.heap.size = xb at x0 x1 hxl ⊢
                  generalize wr.alloc _ = W2 at x0 x1 hxl HBR2 HRW2 HB2 ⊢
                  refine wp_region_later W2.heap.size (Nat.le_refl _) (by kernel_rfl) (by kernel_rfl) ?_
                  have q0 := fun x : Later W2.heap.size W2 => x.cell x0 hxl
                  have q1 := fun x : Later W2.heap.size W2 => x.cell x1 hxl
                  have QF := hid fun x : Later W2.heap.size W2 => HF6.out _ (HBR2.out.below x.ok)
                  clear x0 x1 hxl
                  repeat (go_big_quiet_step (first
                    | (go_at_call 15; with_reducible exact quiet_same _ (QF.out _))))
                  refine wpQuiet_nil ?_
                  rintro _ ⟨lx, rfl⟩
                  have HBR3 := hid (HBR2.out.below lx.ok)
                  have HRW3 := hid (HRW2.out.below lx.ok)
                  have HB3 := hid (below_after HB2.out lx.ok (Nat.le_of_eq HG.out.symm))
                  clear q0 q1 QF HBR2 HRW2 HB2
                  generalize lx.wd = W3 at HBR3 HRW3 HB3 ⊢
                  obtain ⟨dd, hdd⟩ : ∃ dd, y - x = dd := ⟨_, rfl⟩
                  rw [hdd] at HST
                  have g3 : ((y : Int) - (x : Int)) % 4294967296 = (dd : Int) := by omega
                  have hdl : dd ≤ 65536 := by omega
                  have t1 : decide ((y : Int) ≤ (x : Int)) = false := decide_eq_false (by omega)
                  have t1' : decide (y ≤ x) = false := decide_eq_false (by omega)
                  have t2 : decide ((65536 : Int) < (y : Int)) = false := decide_eq_false (by omega)
                  have t2' : decide (65536 < y) = false := decide_eq_false (by omega)
                  have HXY := hid hxy
                  have HY6 := hid hy6
                  clear hdd hxy hy6
                  by_cases hj0 : 0 < j7
                  · have hen := HEND.out hj0
                    have t3 : decide ((x : Int) ≤ (en : Int)) = false := decide_eq_false (by omega)
                    have t3' : decide (x ≤ en) = false := decide_eq_false (by omega)
                    have t4 : decide ((0 : Int) < (j7 : Int)) = true := decide_eq_true (by omega)
                    clear hen
                    go_wp2_with fail
                    go_roundw
                    case rel => exact ⟨j7 + 1, by omega, by go_num, by rw [HST.out]; go_num, by rw [HNX.out, g2], HBR3.out, HRW3.out, HB3.out⟩
                    case measure => simp [intOf]; omega
                  · obtain rfl : j7 = 0 := by omega
                    go_wp2_with fail
                    go_roundw
                    case rel => exact ⟨0 + 1, by omega, by go_num, by rw [HST.out]; go_num, by rw [HNX.out, g2], HBR3.out, HRW3.out, HB3.out⟩
                    case measure => simp [intOf]; omega
                · obtain rfl : j7 = rs6.length := by omega
                  rw [List.take_length]
                  have HBR := hid hbr
                  have HB := hid hb
                  clear hbr hb hrow
                  go_wp2_with fail
                  (with_reducible refine Calls.mono (HBY6.out _ HBR.out) ?_)
                  rintro e w8 ⟨rfl, hb8⟩
                  have HBR8 := hid (HBR.out.below hb8)
                  have HB8 := hid (below_after HB.out hb8 (Nat.le_of_eq HG.out.symm))
                  clear hb8
                  go_wp2_with fail
                  go_roundw
                  case rel => exact ⟨k + 1, f6, rs6, by omega, hf6, by go_num, HBR8.out, HA6.out, HB8.out⟩
                  case measure => simp [intOf]; omega
      · obtain rfl : k = ts.length := by omega
        have HB := hid hb
        clear hb
        go_wp2_with fail
        (with_reducible refine Calls.mono (alive24_any _) ?_)
        rintro e w4 ⟨rfl, hb4⟩
        go_wp2_with fail
        go_ret
        exact ⟨rfl, by rw [HG.out]; exact below_after HB.out hb4 (Nat.le_of_eq HG.out.symm)⟩
  · go_wp2_with fail
    (with_reducible refine Calls.mono (alive24_any _) ?_)
    rintro e w4 ⟨rfl, hb4⟩
    go_wp2_with fail
    go_ret
    exact ⟨rfl, below_after hB2 hb4 (Nat.le_refl _)⟩
end Go.Proofs.Ytkflolbphiffbaa
