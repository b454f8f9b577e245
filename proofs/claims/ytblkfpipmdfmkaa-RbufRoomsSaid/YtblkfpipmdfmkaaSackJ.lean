/- Walk: Advance. -/
import Derived.Test.YtblkfpipmdfmkaaSackI
import Derived.Test.YtblkfpipmdfmkaaBuf
namespace Go.Proofs.Ytblkfpipmdfmkaa
set_option linter.unusedVariables false
set_option linter.unusedSimpArgs false
open Go.RowKit

def advR (d : Nat) (rs : List (Nat × Nat)) : List (Nat × Nat) := rs.filterMap fun x => if d < x.2 then some (x.1 - d, x.2 - d) else none
theorem advR_take (d : Nat) (rs : List (Nat × Nat)) (k : Nat) (h : k < rs.length) : advR d (rs.take (k + 1)) = advR d (rs.take k) ++ (if d < (rs.getD k (0, 0)).2 then [((rs.getD k (0, 0)).1 - d, (rs.getD k (0, 0)).2 - d)] else []) := by
  unfold advR
  rw [List.take_succ_eq_append_getElem h, List.filterMap_append]
  have e1 : rs.getD k (0, 0) = rs[k] := by simp [List.getD_eq_getElem?_getD, List.getElem?_eq_getElem h]
  rw [e1]
  by_cases hd : d < rs[k].2
  · simp [hd]
  · simp [hd]
theorem rcs_append (a b : List (Nat × Nat)) : rcs (a ++ b) = rcs a ++ rcs b := by simp [rcs]
theorem advR_len (d : Nat) (rs : List (Nat × Nat)) : (advR d rs).length ≤ rs.length := List.length_filterMap_le _ _
set_option maxHeartbeats 4000000 in
theorem advance_any (g f n : Nat) (rs : List (Nat × Nat)) (w : World) (h : Brd w g f rs) (hr : OkR rs) (hf : f < 4294967296) (hn : n < 4294967296) :
    Calls Try.prog 32 #[.pointer (some ⟨g, 0, none⟩), .int .u32 (n : Int)] w fun e w' =>
      (aheadS f n < 1 ∨ 65536 < aheadS f n) ∧ e = .returned (.bool false) ∧ w = w' ∨ (1 ≤ aheadS f n ∧ aheadS f n ≤ 65536) ∧ e = .returned (.bool true) ∧ Brd w' g n (advR (aheadS f n) rs) ∧ Mod [g] w w' := by
  have HO := hid (ok_yes g f rs w h)
  have HA := hid (ahead_any g f rs n w h hf hn)
  have e1 : (n + 4294967296 - f) % 4294967296 = aheadS f n := rfl
  rw [e1] at HA
  have hgl := h.lt
  obtain ⟨A, c, hblk, hrow, _⟩ := h
  have c2 := cellRow hblk 2
  simp only [List.getElem?_toArray, List.getElem?_cons_succ, List.getElem?_cons_zero] at c2
  obtain ⟨ib, zb, hib, hzb, hb1, hb2', hb3⟩ := info_run
  have htop := hrow.top
  have hcap := hrow.cap
  have HROW := hid hrow
  have HR := hid hr
  have hlen := hr.1
  have HBLK := hid hblk
  clear hrow hr e1 hblk
  generalize aheadS f n = dn at *
  by_cases hd : 1 ≤ dn ∧ dn ≤ 65536
  · have d1 : decide ((dn : Int) < 1) = false := decide_eq_false (by omega)
    have d2 : decide ((65536 : Int) < (dn : Int)) = false := decide_eq_false (by omega)
    have d1' : decide (dn < 1) = false := decide_eq_false (by omega)
    have d2' : decide (65536 < dn) = false := decide_eq_false (by omega)
    have HDN := hid hd
    have hdl := hd.2
    clear hd
    go_enter Try.func32, Try.ntmps32
    go_wp2_with fail
    (with_reducible refine Calls.mono HO.out ?_)
    rintro e w' ⟨rfl, rfl⟩
    go_wp2_with fail
    (with_reducible refine Calls.mono HA.out ?_)
    rintro e w' ⟨rfl, rfl⟩
    go_wp2_with fail
    go_loopw [6, 26] (fun l i wr => ∃ (k : Nat) (vl : Value), k ≤ rs.length ∧ i = .int .i64 k ∧ vl = l ∧ wr.ownsRow w.heap.size 81 2 vl (advR dn (rs.take k)).length (rcs (advR dn (rs.take k))) ∧ Below w.heap.size w wr) (fun _ i _ => rs.length - (intOf i).toNat)
    case atStart => exact ⟨0, _, Nat.zero_le _, rfl, rfl, own_nil _ _ _ 2, Below.refl _ _⟩
    case round =>
      obtain ⟨k, vl, hk, rfl, rfl, ho, hb⟩ := hrel
      by_cases hlt : k < rs.length
      · have hrow := HROW.out.below hb
        obtain ⟨a, rfl⟩ := hrow.addr (by rw [rcs_length]; omega)
        obtain ⟨l0, l1⟩ := hrow.run k hlt
        have hg := HR.out.get k hlt
        have HTK := hid (advR_take dn rs k hlt)
        have hal := advR_len dn (rs.take k)
        rw [List.length_take] at hal
        generalize rs.getD k (0, 0) = xy at *
        obtain ⟨x, y⟩ := xy
        simp only at l0 l1 hg HTK
        generalize advR dn (rs.take k) = ls at ho HTK hal
        have HHO := hid ho
        have HB := hid hb
        have hll : ls.length ≤ 65536 := by omega
        clear hrow ho hb hal
        by_cases hy : dn < y
        · have t1 : decide ((dn : Int) < (y : Int)) = true := decide_eq_true (by omega)
          have t1' : decide (dn < y) = true := decide_eq_true hy
          rw [if_pos hy] at HTK
          have hmx : (if (x : Int) - (dn : Int) < 0 then 0 else (x : Int) - (dn : Int)) = ((x - dn : Nat) : Int) := by split <;> omega
          have hyd : (y : Int) - (dn : Int) = ((y - dn : Nat) : Int) := by omega
          have HO1 := hid (own_below HHO.out (bl1 wr (.cells #[.int .i64 (x : Int), .int .i64 (y : Int)] 81)))
          have HB1 := hid (below_after HB.out (bl1 wr (.cells #[.int .i64 (x : Int), .int .i64 (y : Int)] 81)) (Nat.le_refl _))
          go_wp2_with (first
            | ((with_reducible refine at_slot 45 ?_); refine wpList_litF rfl 74 81 1 _ rfl #[(0, .agg #[.int .i64 ((x - dn : Nat) : Int), .int .i64 ((y - dn : Nat) : Int)])] (by simp [Act.eval, Act.put]) _ (build_run _ _) ?_; intro w2 h2 hb2 s2; clear s2; have HB2 := hid (below_after HB1.out hb2 (Nat.le_refl _)); have HO2 := hid (own_below HO1.out hb2))
            | ((with_reducible refine at_slot 46 ?_); refine wpList_append_row w2 rfl (.tmp 34) (.tmp 45) 74 rfl w.heap.size 81 ib zb 2 16 Try.underlying74 hib hzb hb1 hb2' hb3 (by decide) _ ls.length (rcs ls) rfl HO2.out _ 1 1 (rcs [(x - dn, y - dn)]) rfl (Row.one_run h2) (one_rcs _) (by show ls.length + 1 ≤ 9223372036854775807; omega) (by omega) HB2.out.size ?_; intro v3 w3 ho3 hg3 hk3))
          have HB3 := hid (below_grown HB2.out HO2.out hg3 (Nat.le_refl _) (Nat.le_refl _))
          rw [← rcs_append, show ls.length + 1 = (ls ++ [(x - dn, y - dn)]).length by simp] at ho3
          have HO3 := hid ho3
          clear ho3 hg3 hk3 h2 hb2
          go_wp2_with fail
          go_roundw
          case rel => exact ⟨k + 1, v3, by omega, by go_num, rfl, by rw [HTK.out]; exact HO3.out, HB3.out⟩
          case measure => simp [intOf]; omega
        · have t1 : decide ((dn : Int) < (y : Int)) = false := decide_eq_false (by omega)
          have t1' : decide (dn < y) = false := decide_eq_false hy
          rw [if_neg hy, List.append_nil] at HTK
          have HO1 := hid (own_below HHO.out (bl1 wr (.cells #[.int .i64 (x : Int), .int .i64 (y : Int)] 81)))
          have HB1 := hid (below_after HB.out (bl1 wr (.cells #[.int .i64 (x : Int), .int .i64 (y : Int)] 81)) (Nat.le_refl _))
          clear hy
          go_wp2_with fail
          go_roundw
          case rel => exact ⟨k + 1, vl, by omega, by go_num, rfl, by rw [HTK.out]; exact HO1.out, HB1.out⟩
          case measure => simp [intOf]; omega
      · obtain rfl : k = rs.length := by omega
        rw [List.take_length] at ho
        have hin : ∃ d, (∀ A c, vl = .slice A (advR dn rs).length c → InB A d) ∧ w.heap.size ≤ d := by
          rcases ho.2 with ⟨h1, _⟩ | ⟨g', cap, cur, h1, hbb, _⟩
          · exact ⟨w.heap.size, (by intro A c e; rw [h1] at e; injection e with e _ _; subst e; exact InB.none _), Nat.le_refl _⟩
          · exact ⟨g', (by intro A c e; rw [h1] at e; injection e with e _ _; subst e; exact InB.some _ _), hbb⟩
        obtain ⟨d, hin1, hin2⟩ := hin
        obtain ⟨A2, k2, rfl, hrow2⟩ := Row.of_own ho
        have hin1 := hin1 A2 k2 rfl
        have hblk2 := (hb.block g hgl).trans HBLK.out
        have HB := hid hb
        have HIN := hid hin1
        have HROW2 := hid hrow2
        have HOW2 := hid ho
        have HBL2 := hid hblk2
        clear ho hb hin1 hrow2
        go_wp2_with (first
          | ((with_reducible refine at_store 53 50 ?_); refine wpList_partF rfl 23 (.tmp 53) (.tmp 50) rfl g 1 76 _ #[.bool true, .int .u32 (n : Int), .slice A rs.length c] [.int .u32 (n : Int)] rfl rfl hblk2 (by show 1 + 1 ≤ 3; omega) (by simp [Value.oneCell']) (by kernel_rfl) rfl ?_; intro w4 h4 m4 s4; clear s4)
          | ((with_reducible refine at_store 55 51 ?_); refine wpList_partF rfl 74 (.tmp 55) (.tmp 51) rfl g 2 76 _ #[.bool true, .int .u32 (n : Int), (.slice A2 (advR dn rs).length k2)] [(.slice A2 (advR dn rs).length k2)] rfl rfl h4 (Nat.le_refl 3) (by simp [Value.oneCell']) (by kernel_rfl) rfl ?_; intro w5 h5 m5 s5; clear s5))
        go_ret
        refine .inr ⟨HDN.out, rfl, ⟨A2, k2, h5, (HROW2.out.mod m4 HIN.out (by simp; omega)).mod m5 HIN.out (by simp; omega), own_runs (own_runs HOW2.out HBL2.out (by decide) (fun k hk hne => m4.block k hk (by simpa using hne))) h4 (by decide) (fun k hk hne => m5.block k hk (by simpa using hne))⟩, ?_⟩
        exact (((Mod.of_below HB.out).sub (by simp)).trans m4).trans m5
  · have HN := hid (show dn < 1 ∨ 65536 < dn by omega)
    by_cases h1 : dn < 1
    · have d1 : decide ((dn : Int) < 1) = true := decide_eq_true (by omega)
      have d1' : decide (dn < 1) = true := decide_eq_true h1
      clear hd h1
      go_enter Try.func32, Try.ntmps32
      go_wp2_with fail
      (with_reducible refine Calls.mono HO.out ?_)
      rintro e w' ⟨rfl, rfl⟩
      go_wp2_with fail
      (with_reducible refine Calls.mono HA.out ?_)
      rintro e w' ⟨rfl, rfl⟩
      go_wp2_with fail
      go_ret
      exact .inl ⟨HN.out, rfl, rfl⟩
    · have d1 : decide ((dn : Int) < 1) = false := decide_eq_false (by omega)
      have d1' : decide (dn < 1) = false := decide_eq_false h1
      have d2 : decide ((65536 : Int) < (dn : Int)) = true := decide_eq_true (by omega)
      have d2' : decide (65536 < dn) = true := decide_eq_true (by omega)
      clear hd h1
      go_enter Try.func32, Try.ntmps32
      go_wp2_with fail
      (with_reducible refine Calls.mono HO.out ?_)
      rintro e w' ⟨rfl, rfl⟩
      go_wp2_with fail
      (with_reducible refine Calls.mono HA.out ?_)
      rintro e w' ⟨rfl, rfl⟩
      go_wp2_with fail
      go_ret
      exact .inl ⟨HN.out, rfl, rfl⟩
end Go.Proofs.Ytblkfpipmdfmkaa
