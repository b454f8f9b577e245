/- Walk: join, over what Insert does. -/
import Derived.Test.YtblkfpipmdfmkaaSackQ
namespace Go.Proofs.Ytblkfpipmdfmkaa
set_option linter.unusedVariables false
set_option linter.unusedSimpArgs false
open Go.RowKit

theorem insR_take (l : List (Nat × Nat)) (r : Nat × Nat) : insR l r = l.take (posR l r.1) ++ r :: l.drop (posR l r.1) := by
  have e := List.takeWhile_append_dropWhile (p := fun x : Nat × Nat => decide (x.1 < r.1)) (l := l)
  have e1 : l.take (posR l r.1) = l.takeWhile (fun x => decide (x.1 < r.1)) := by
    unfold posR
    conv => lhs; arg 2; rw [← e]
    exact List.take_left
  have e2 : l.drop (posR l r.1) = l.dropWhile (fun x => decide (x.1 < r.1)) := by
    unfold posR
    conv => lhs; arg 2; rw [← e]
    exact List.drop_left
  unfold insR
  rw [e1, e2]
/-- What Insert does at runs of the call's own. -/
def InsertsSaid : Prop := ∀ (W : World) (base : Nat) (v : Value) (l : List (Nat × Nat)) (i : Nat) (r : Nat × Nat) (vb : Nat), base ≤ W.heap.size → W.ownsRow base 81 2 v l.length (rcs l) → OkR l → i ≤ l.length →
  W.heap[vb]? = some (.cells #[.int .i64 (r.1 : Int), .int .i64 (r.2 : Int)] 81 (0, 0)) → v.ownBlock ≠ some vb →
  Calls Try.prog 53 #[v, .int .i64 (i : Int), .slice (some ⟨vb, 0, none⟩) 1 1] W fun e w' =>
    ∃ v', e = .returned v' ∧ w'.ownsRow base 81 2 v' (l.length + 1) (rcs (l.take i ++ r :: l.drop i)) ∧ Below base W w'
theorem own_mod {w w' : World} {M : List Nat} {base sz n : Nat} {e : TypeId} {v : Value} {xs : List Value} (h : w.ownsRow base e sz v n xs) (hm : Mod M w w') (hM : ∀ k ∈ M, k < base) : w'.ownsRow base e sz v n xs := by
  refine ⟨h.1, ?_⟩
  rcases h.2 with h2 | ⟨g, cap, cur, a, b, c, rest⟩
  · exact .inl h2
  · exact .inr ⟨g, cap, cur, a, b, hm.keeps c (fun hx => by have := hM g hx; omega), rest⟩
theorem joinL_drop (rs : List (Nat × Nat)) (k : Nat) (r : Nat × Nat) (h : k < rs.length) : joinL (rs.drop k) r =
    if (rs.getD k (0, 0)).2 < r.1 ∨ r.2 < (rs.getD k (0, 0)).1 then (rs.getD k (0, 0) :: (joinL (rs.drop (k + 1)) r).1, (joinL (rs.drop (k + 1)) r).2) else joinL (rs.drop (k + 1)) (min r.1 (rs.getD k (0, 0)).1, max r.2 (rs.getD k (0, 0)).2) := by
  rw [List.drop_eq_getElem_cons h]
  have e1 : rs.getD k (0, 0) = rs[k] := by simp [List.getD_eq_getElem?_getD, List.getElem?_eq_getElem h]
  rw [e1]
  rfl
set_option maxHeartbeats 4000000 in
theorem join_any (hins : InsertsSaid) (g f x y : Nat) (rs : List (Nat × Nat)) (w : World) (h : Brd w g f rs) (ha : Apart rs) (hx : x < y) (hy : y ≤ 65536) : Calls Try.prog 47 #[.pointer (some ⟨g, 0, none⟩), .agg #[.int .i64 (x : Int), .int .i64 (y : Int)]] w fun e w' =>
    e = .returned (.tuple #[]) ∧ Brd w' g f (joinR rs (x, y)) ∧ Mod [g] w w' := by
  have hgl := h.lt
  obtain ⟨A, c, h1, hrow, _⟩ := h
  have c2 : ∀ o : Obj, (w.alloc o).cell? ⟨g, 2, none⟩ = some (.slice A rs.length c) := fun o => by
    rw [World.cell?_alloc_lt w _ _ hgl]
    have := cellRow h1 2
    simpa using this
  have hcap := hrow.cap
  have htop := hrow.top
  obtain ⟨ib, zb, hib, hzb, hb1, hb2', hb3⟩ := info_run
  have HROW := hid hrow
  have HA := hid ha
  have HR := hid ha.ok
  have hlen := ha.ok.1
  have HG := hid h1
  unfold InsertsSaid at hins
  have HINS := hid hins
  clear hrow ha h1 hins
  go_enter Try.func47, Try.ntmps47
  go_wp2_with fail
  have r0 := nw1 w (.cells #[.int .i64 (x : Int), .int .i64 (y : Int)] 81)
  have hB0 := bl1 w (.cells #[.int .i64 (x : Int), .int .i64 (y : Int)] 81)
  have hz0 : w.heap.size + 1 ≤ (w.alloc (.cells #[.int .i64 (x : Int), .int .i64 (y : Int)] 81)).heap.size := by simp
  clear c2
  generalize w.alloc _ = w0 at *
  go_loopw [4, 14] (fun lv i wr => ∃ (k : Nat) (vl : Value) (l : List (Nat × Nat)) (p q : Nat), k ≤ rs.length ∧ l.length ≤ k ∧ i = .int .i64 k ∧ vl = lv ∧ wr.ownsRow (w.heap.size + 1) 81 2 vl l.length (rcs l) ∧ p < q ∧ q ≤ 65536 ∧
    wr.heap[w.heap.size]? = some (.cells #[.int .i64 (p : Int), .int .i64 (q : Int)] 81 (0, 0)) ∧ Hid (joinL rs (x, y) = (l ++ (joinL (rs.drop k) (p, q)).1, (joinL (rs.drop k) (p, q)).2)) ∧ Below w.heap.size w wr ∧ w.heap.size + 1 ≤ wr.heap.size) (fun _ i _ => rs.length - (intOf i).toNat)
  case atStart => exact ⟨0, _, [], x, y, Nat.zero_le _, Nat.zero_le _, rfl, rfl, own_nil _ _ _ 2, hx, hy, r0, hid rfl, hB0, hz0⟩
  case round =>
    obtain ⟨k, vl, l, p, q, hk, hlk, rfl, rfl, ho, hpq, hq, hrb, hjl, hb, hz⟩ := hrel
    by_cases hlt : k < rs.length
    · have hrow := HROW.out.below hb
      obtain ⟨a, rfl⟩ := hrow.addr (by rw [rcs_length]; omega)
      obtain ⟨l0, l1⟩ := hrow.run k hlt
      have hg := HR.out.get k hlt
      have hjd := joinL_drop rs k (p, q) hlt
      rw [hjd] at hjl
      clear hjd
      generalize rs.getD k (0, 0) = xy at *
      obtain ⟨s, t⟩ := xy
      simp only at l0 l1 hg hjl
      have HJL := hid hjl.out
      have p0 := cellRow ((bl1 wr (.cells #[.int .i64 (s : Int), .int .i64 (t : Int)] 81)).block _ (by omega) |>.trans hrb) 0
      have p1 := cellRow ((bl1 wr (.cells #[.int .i64 (s : Int), .int .i64 (t : Int)] 81)).block _ (by omega) |>.trans hrb) 1
      simp only [List.getElem?_toArray, List.getElem?_cons_succ, List.getElem?_cons_zero] at p0 p1
      have HRB := hid (((bl1 wr (.cells #[.int .i64 (s : Int), .int .i64 (t : Int)] 81)).block _ (by omega)).trans hrb)
      have HO1 := hid (own_below ho (bl1 wr (.cells #[.int .i64 (s : Int), .int .i64 (t : Int)] 81)))
      have HB1 := hid (below_after hb (bl1 wr (.cells #[.int .i64 (s : Int), .int .i64 (t : Int)] 81)) (Nat.le_refl _))
      have HX1 := hid (nw1 wr (.cells #[.int .i64 (s : Int), .int .i64 (t : Int)] 81))
      clear hrow ho hb hrb hjl
      by_cases hc : t < p ∨ q < s
      · rw [if_pos hc] at HJL
        have HJ2 := hid (show joinL rs (x, y) = ((l ++ [(s, t)]) ++ (joinL (rs.drop (k + 1)) (p, q)).1, (joinL (rs.drop (k + 1)) (p, q)).2) by rw [HJL.out]; simp)
        have hz1 : w.heap.size + 1 ≤ (wr.alloc (.cells #[.int .i64 (s : Int), .int .i64 (t : Int)] 81)).heap.size := by simp; omega
        by_cases c1 : t < p
        · have t1 : decide ((t : Int) < (p : Int)) = true := decide_eq_true (by omega)
          have t1' : decide (t < p) = true := decide_eq_true c1
          clear hc
          go_wp2_with (first
            | ((with_reducible refine at_slot 31 ?_); refine wpList_load_row rfl 81 (.tmp 6) rfl wr.heap.size rfl _ #[.int .i64 (s : Int), .int .i64 (t : Int)] _ _ HX1.out Try.underlying81 rfl info_runs ?_)
            | ((with_reducible refine at_slot 32 ?_); refine wpList_litF rfl 74 81 1 _ rfl #[(0, .agg #[.int .i64 (s : Int), .int .i64 (t : Int)])] (by simp [Act.eval, Act.put]) _ (build_run _ _) ?_; intro w2 h2 hb2 s2; clear s2; have HB2 := hid (below_after HB1.out hb2 (Nat.le_refl _)); have HO2 := hid (own_below HO1.out hb2); have HRB2 := hid ((hb2.block _ (Nat.lt_of_lt_of_le (Nat.lt_succ_self _) hz1)).trans HRB.out); have hz2 := Nat.le_trans hz1 hb2.size)
            | ((with_reducible refine at_slot 33 ?_); refine wpList_append_row w2 rfl (.tmp 30) (.tmp 32) 74 rfl (w.heap.size + 1) 81 ib zb 2 16 Try.underlying74 hib hzb hb1 hb2' hb3 (by decide) _ l.length (rcs l) rfl HO2.out _ 1 1 (rcs [(s, t)]) rfl (Row.one_run h2) (one_rcs _) (by show l.length + 1 ≤ 9223372036854775807; omega) (by omega) hz2 ?_; intro v3 w3 ho3 hg3 hk3))
          have HB3 := hid (below_grown HB2.out HO2.out hg3 (Nat.le_succ _) (Nat.le_refl _))
          have HRB3 := hid ((hg3.block _ (Nat.lt_of_lt_of_le (Nat.lt_succ_self _) hz2) (by intro e; have := own_ge HO2.out _ e.symm; omega)).trans HRB2.out)
          have hz3 := Nat.le_trans hz2 hg3.size
          rw [← rcs_append, show l.length + 1 = (l ++ [(s, t)]).length by simp] at ho3
          have HO3 := hid ho3
          clear ho3 hg3 hk3 h2 hb2 hz1 hz2
          go_wp2_with fail
          go_roundw
          case rel => exact ⟨k + 1, v3, l ++ [(s, t)], p, q, by omega, by simp; omega, by go_num, rfl, HO3.out, hpq, hq, HRB3.out, HJ2, HB3.out, hz3⟩
          case measure => simp [intOf]; omega
        · have t1 : decide ((t : Int) < (p : Int)) = false := decide_eq_false (by omega)
          have t1' : decide (t < p) = false := decide_eq_false c1
          have t2 : decide ((q : Int) < (s : Int)) = true := decide_eq_true (by omega)
          have t2' : decide (q < s) = true := decide_eq_true (by omega)
          clear hc
          go_wp2_with (first
            | ((with_reducible refine at_slot 31 ?_); refine wpList_load_row rfl 81 (.tmp 6) rfl wr.heap.size rfl _ #[.int .i64 (s : Int), .int .i64 (t : Int)] _ _ HX1.out Try.underlying81 rfl info_runs ?_)
            | ((with_reducible refine at_slot 32 ?_); refine wpList_litF rfl 74 81 1 _ rfl #[(0, .agg #[.int .i64 (s : Int), .int .i64 (t : Int)])] (by simp [Act.eval, Act.put]) _ (build_run _ _) ?_; intro w2 h2 hb2 s2; clear s2; have HB2 := hid (below_after HB1.out hb2 (Nat.le_refl _)); have HO2 := hid (own_below HO1.out hb2); have HRB2 := hid ((hb2.block _ (Nat.lt_of_lt_of_le (Nat.lt_succ_self _) hz1)).trans HRB.out); have hz2 := Nat.le_trans hz1 hb2.size)
            | ((with_reducible refine at_slot 33 ?_); refine wpList_append_row w2 rfl (.tmp 30) (.tmp 32) 74 rfl (w.heap.size + 1) 81 ib zb 2 16 Try.underlying74 hib hzb hb1 hb2' hb3 (by decide) _ l.length (rcs l) rfl HO2.out _ 1 1 (rcs [(s, t)]) rfl (Row.one_run h2) (one_rcs _) (by show l.length + 1 ≤ 9223372036854775807; omega) (by omega) hz2 ?_; intro v3 w3 ho3 hg3 hk3))
          have HB3 := hid (below_grown HB2.out HO2.out hg3 (Nat.le_succ _) (Nat.le_refl _))
          have HRB3 := hid ((hg3.block _ (Nat.lt_of_lt_of_le (Nat.lt_succ_self _) hz2) (by intro e; have := own_ge HO2.out _ e.symm; omega)).trans HRB2.out)
          have hz3 := Nat.le_trans hz2 hg3.size
          rw [← rcs_append, show l.length + 1 = (l ++ [(s, t)]).length by simp] at ho3
          have HO3 := hid ho3
          clear ho3 hg3 hk3 h2 hb2 hz1 hz2
          go_wp2_with fail
          go_roundw
          case rel => exact ⟨k + 1, v3, l ++ [(s, t)], p, q, by omega, by simp; omega, by go_num, rfl, HO3.out, hpq, hq, HRB3.out, HJ2, HB3.out, hz3⟩
          case measure => simp [intOf]; omega
      · rw [if_neg hc] at HJL
        have t1 : decide ((t : Int) < (p : Int)) = false := decide_eq_false (by omega)
        have t1' : decide (t < p) = false := decide_eq_false (by omega)
        have t2 : decide ((q : Int) < (s : Int)) = false := decide_eq_false (by omega)
        have t2' : decide (q < s) = false := decide_eq_false (by omega)
        have hmn : (if (s : Int) < (p : Int) then (s : Int) else (p : Int)) = ((min p s : Nat) : Int) := by split <;> omega
        have hmx : (if (q : Int) < (t : Int) then (t : Int) else (q : Int)) = ((max q t : Nat) : Int) := by split <;> omega
        have hmn2 : (if s < p then (s : Int) else (p : Int)) = ((min p s : Nat) : Int) := by split <;> omega
        have hmx2 : (if q < t then (t : Int) else (q : Int)) = ((max q t : Nat) : Int) := by split <;> omega
        have hnm : min p s < max q t := by omega
        have hnm2 : max q t ≤ 65536 := by omega
        generalize min p s = p' at *
        generalize max q t = q' at *
        clear hc
        go_wp2_with (first
          | ((with_reducible refine at_store 3 44 ?_); refine wpList_partF rfl 81 (.tmp 3) (.tmp 44) rfl w.heap.size 0 81 _ #[.int .i64 (p' : Int), .int .i64 (q' : Int)] [.int .i64 (p' : Int), .int .i64 (q' : Int)] rfl rfl HRB.out (Nat.le_refl 2) (by simp [Value.oneCell']) (by kernel_rfl) rfl ?_; intro w2 h2 m2 s2; have hs2 := Nat.le_of_eq s2.symm; clear s2))
        have HO2 := hid (own_mod HO1.out m2 (by simp))
        have HB2 := hid (m2.below HB1.out (Nat.le_refl _) (by simp))
        have H2 := hid h2
        have hz2 : w.heap.size + 1 ≤ w2.heap.size := by simp at hs2; omega
        clear h2 m2 hs2
        go_wp2_with fail
        go_roundw
        case rel => exact ⟨k + 1, vl, l, p', q', by omega, by omega, by go_num, rfl, HO2.out, hnm, hnm2, H2.out, HJL, HB2.out, hz2⟩
        case measure => simp [intOf]; omega
    · obtain rfl : k = rs.length := by omega
      rw [List.drop_length] at hjl
      have hj2 : joinL rs (x, y) = (l, (p, q)) := by rw [hjl.out]; simp [joinL]
      have hla : Apart l := by have := joinL_apart rs (x, y) HA.out; rw [hj2] at this; exact this
      have hins2 : joinR rs (x, y) = l.take (posR l p) ++ (p, q) :: l.drop (posR l p) := by unfold joinR; rw [hj2]; exact insR_take l (p, q)
      have hpos : posR l p ≤ l.length := (List.takeWhile_sublist _).length_le
      have hjlen : (joinR rs (x, y)).length = l.length + 1 := by rw [hins2]; simp; omega
      obtain ⟨A4, k4, rfl, hrow4⟩ := Row.of_own ho
      have HBS := hid (bsearch_any A4 k4 l p wr hrow4 hla.ok hla.up (by omega))
      have p0 := cellRow hrb 0
      have p1 := cellRow hrb 1
      simp only [List.getElem?_toArray, List.getElem?_cons_succ, List.getElem?_cons_zero] at p0 p1
      have HLA := hid hla.ok
      have HPOS := hid hpos
      have HI2 := hid hins2
      have HJN := hid hjlen
      have HO1 := hid ho
      have HB1 := hid hb
      have HRB := hid hrb
      clear ho hb hrb hjl hj2 hla hpos hins2 hjlen hrow4
      generalize posR l p = ps at *
      go_wp2_with fail
      (with_reducible refine Calls.mono HBS.out ?_)
      rintro e w5 ⟨tb, rfl, hb5⟩
      have HO5 := hid (own_below HO1.out hb5)
      have HB5 := hid (below_after HB1.out hb5 (Nat.le_refl _))
      have HRB5 := hid ((hb5.block _ (by omega)).trans HRB.out)
      have hz5 := Nat.le_trans hz hb5.size
      clear hb5 p0 p1
      go_wp2_with (first
        | ((with_reducible refine at_slot 56 ?_); refine wpList_load_row rfl 81 (.tmp 3) rfl w.heap.size rfl _ #[.int .i64 (p : Int), .int .i64 (q : Int)] _ _ HRB5.out Try.underlying81 rfl info_runs ?_)
        | ((with_reducible refine at_slot 57 ?_); refine wpList_litF rfl 74 81 1 _ rfl #[(0, .agg #[.int .i64 (p : Int), .int .i64 (q : Int)])] (by simp [Act.eval, Act.put]) _ (build_run _ _) ?_; intro w6 h6 hb6 s6; clear s6))
      have hz6 := Nat.le_trans hz5 hb6.size
      have HB6 := hid (below_after HB5.out hb6 (Nat.le_refl _))
      have hne6 : (Value.slice A4 l.length k4).ownBlock ≠ some w5.heap.size := fun e => by have := (HO5.out.lt _ e).2; omega
      (with_reducible refine Calls.mono (HINS.out w6 (w.heap.size + 1) _ l ps (p, q) w5.heap.size hz6 (own_below HO5.out hb6) HLA.out HPOS.out h6 hne6) ?_)
      rintro e w7 ⟨v7, rfl, ho7, hb7⟩
      rw [← HI2.out, ← HJN.out] at ho7
      have hgg := (hb7.block g (by omega)).trans ((HB6.out.block g hgl).trans HG.out)
      have hin : ∃ d, (∀ A c, v7 = .slice A (joinR rs (x, y)).length c → InB A d) ∧ w.heap.size + 1 ≤ d := by
        rcases ho7.2 with ⟨h1, _⟩ | ⟨g', cap, cur, h1, hbb, _⟩
        · exact ⟨w.heap.size + 1, (by intro A c e; rw [h1] at e; injection e with e _ _; subst e; exact InB.none _), Nat.le_refl _⟩
        · exact ⟨g', (by intro A c e; rw [h1] at e; injection e with e _ _; subst e; exact InB.some _ _), hbb⟩
      obtain ⟨d, hin1, hin2⟩ := hin
      obtain ⟨A7, k7, rfl, hrow7⟩ := Row.of_own ho7
      have hin1 := hin1 A7 k7 rfl
      have HM7 := hid (HB6.out.trans (hb7.mono (Nat.le_succ _)))
      have HIN := hid hin1
      have HROW7 := hid hrow7
      have HOW7 := hid ho7
      have HGG7 := hid hgg
      clear ho7 hb7 hin1 hrow7 h6 hb6 hne6
      go_wp2_with (first
        | ((with_reducible refine at_store 60 58 ?_); refine wpList_partF rfl 74 (.tmp 60) (.tmp 58) rfl g 2 76 _ #[.bool true, .int .u32 (f : Int), (.slice A7 (joinR rs (x, y)).length k7)] [(.slice A7 (joinR rs (x, y)).length k7)] rfl rfl hgg (Nat.le_refl 3) (by simp [Value.oneCell']) (by kernel_rfl) rfl ?_; intro w8 h8 m8 s8; clear s8))
      go_end0
      exact ⟨rfl, ⟨A7, k7, h8, HROW7.out.mod m8 HIN.out (by simp; omega), own_runs HOW7.out HGG7.out (by decide) (fun k hk hne => m8.block k hk (by simpa using hne))⟩, ((Mod.of_below HM7.out).sub (by simp)).trans m8⟩
end Go.Proofs.Ytblkfpipmdfmkaa
