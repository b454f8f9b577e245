/- Walks: the document's Lay and Size; the law Lays of layer 12. -/
import Derived.Test.YthodepdgmcagjaaOptD
namespace Go.Proofs.Ythodepdgmcagjaa
set_option linter.unusedVariables false
set_option linter.unusedSimpArgs false
open Go.RowKit

set_option maxRecDepth 20000 in
theorem rsize12_any (o : OptM) (w : World) (ho : OptOk w o) (hsl : o.sacks.length ≤ 1000) : Calls Try.prog 13 #[.agg o.cells] w fun e w' => e = .returned (.int .i64 (sizeO o : Int)) ∧ Below w.heap.size w w' := by
  have HBY := hid (fun W (h : Below w.heap.size w W) => bytes12_any o W (ho.below h) hsl)
  have HI := hid (info_optsX o ho.mac)
  rw [bytesO_len o ho.mac] at HBY
  generalize o.cells = co at HBY HI ⊢
  generalize sizeO o = sz at HBY ⊢
  obtain ⟨B, hB⟩ : ∃ x, w.heap.size = x := ⟨_, rfl⟩
  rw [hB] at HBY ⊢
  have HB := hid hB
  clear hB ho
  go_enter Try.func13, Try.ntmps13
  go_wp2_with (first
    | ((with_reducible refine at_slot 1 ?_); refine wpList_boxF rfl 27 (.tmp 0) rfl co rfl ?_; intro w1 hx1 hb1 hz1; rw [HB.out] at hx1 hb1 hz1 ⊢; have X := hid hx1; have BB := hid hb1; have Z := hid hz1; clear hx1 hb1 hz1)
    | ((with_reducible refine at_slot 3 ?_); refine wpList_load_row rfl 27 (.tmp 1) rfl B rfl _ co _ _ X.out Try.underlying27 rfl HI.out ?_))
  (with_reducible refine Calls.mono (HBY.out _ BB.out) ?_)
  rintro e w2 ⟨A2, c2, rfl, ho2, hb2⟩
  have B2 := hid (BB.out.trans (hb2.mono (by have := Z.out; omega)))
  clear hb2 ho2
  go_wp2_with fail
  go_ret
  exact ⟨rfl, B2.out⟩
set_option maxRecDepth 20000 in
theorem rlay12_any (o : OptM) (w : World) (ho : OptOk w o) (hsl : o.sacks.length ≤ 1000) : Calls Try.prog 11 #[.agg o.cells] w (LayRes w.heap.size w o) := by
  have HMY := hid (fun W (h : Below w.heap.size w W) => may12_any o W (ho.below h) hsl)
  have HBY := hid (fun W (h : Below w.heap.size w W) => bytes12_any o W (ho.below h) hsl)
  have HI := hid (info_optsX o ho.mac)
  have HYES := hid (fun (h : mayO o = true) (W : World) A c (h1 : OB W w.heap.size (.slice A (bytesO o).length c) (bytesO o)) (h2 : Below w.heap.size w W) => lay_yes h rfl h1 h2)
  have HNO := hid (fun (h : mayO o = false) (W : World) (h2 : Below w.heap.size w W) => lay_no h h2)
  obtain ⟨m, hm⟩ : ∃ m, mayO o = m := ⟨_, rfl⟩
  rw [hm] at HMY HYES HNO
  clear hm
  generalize bytesO o = b at HBY HYES
  generalize o.cells = co at HMY HBY HI ⊢
  obtain ⟨B, hB⟩ : ∃ x, w.heap.size = x := ⟨_, rfl⟩
  rw [hB] at HMY HBY HYES HNO ⊢
  have HB := hid hB
  clear hB ho
  go_enter Try.func11, Try.ntmps11
  go_wp2_with (first
    | ((with_reducible refine at_slot 1 ?_); refine wpList_boxF rfl 27 (.tmp 0) rfl co rfl ?_; intro w1 hx1 hb1 hz1; rw [HB.out] at hx1 hb1 hz1 ⊢; have X := hid hx1; have BB := hid hb1; have Z := hid hz1; clear hx1 hb1 hz1)
    | ((with_reducible refine at_slot 4 ?_); refine wpList_load_row rfl 27 (.tmp 1) rfl B rfl _ co _ _ X.out Try.underlying27 rfl HI.out ?_))
  (with_reducible refine Calls.mono (HMY.out _ BB.out) ?_)
  rintro e w2 ⟨rfl, hb2⟩
  have X2 := hid ((hb2.block _ (by have := Z.out; omega)).trans X.out)
  have B2 := hid (BB.out.trans (hb2.mono (by have := Z.out; omega)))
  have Z2 := hid (show B + 1 ≤ w2.heap.size by have := Z.out; have := hb2.size; omega)
  clear hb2 X BB Z
  cases m
  case false =>
    go_wp2_with fail
    go_ret2
    exact HNO.out (by simp) _ B2.out
  go_wp2_with ((with_reducible refine at_slot 7 ?_); refine wpList_load_row rfl 27 (.tmp 1) rfl B rfl _ co _ _ X2.out Try.underlying27 rfl HI.out ?_)
  (with_reducible refine Calls.mono (HBY.out _ B2.out) ?_)
  rintro e w3 ⟨A3, c3, rfl, ho3, hb3⟩
  have B3 := hid (B2.out.trans (hb3.mono (by have := Z2.out; omega)))
  have HO3 := hid (OB.lower ho3 (show B ≤ w2.heap.size by have := Z2.out; omega))
  clear hb3 ho3
  go_wp2_with fail
  go_ret2
  exact HYES.out (by simp) _ A3 c3 HO3.out B3.out
set_option maxRecDepth 20000 in
set_option maxHeartbeats 8000000 in
theorem lawLays12_any (o p : OptM) (w : World) (ho : OptOk w o) (hp : OptOk w p) : Calls Try.prog 3 #[.agg o.cells, .agg p.cells] w fun e w' => e = .returned (.bool true) ∧ Below w.heap.size w w' := by
  have HF := hid (fun W (h : Below w.heap.size w W) => far12_any o W (ho.below h))
  have HG := hid (fun W (h : Below w.heap.size w W) => far12_any p W (hp.below h))
  have HLY := hid (fun (hsl : o.sacks.length ≤ 1000) W (h : Below w.heap.size w W) => lay_any o W (ho.below h) hsl)
  have HRL := hid (fun (hsl : o.sacks.length ≤ 1000) W (h : Below w.heap.size w W) => rlay12_any o W (ho.below h) hsl)
  have HSZ := hid (fun (hsl : o.sacks.length ≤ 1000) W (h : Below w.heap.size w W) => size_any o W (ho.below h) hsl)
  have HRS := hid (fun (hsl : o.sacks.length ≤ 1000) W (h : Below w.heap.size w W) => rsize12_any o W (ho.below h) hsl)
  have HMY := hid (fun (hsl : o.sacks.length ≤ 1000) W (h : Below w.heap.size w W) => may_any o W (ho.below h) hsl)
  have HRM := hid (fun (hsl : o.sacks.length ≤ 1000) W (h : Below w.heap.size w W) => may12_any o W (ho.below h) hsl)
  have HSM := hid (fun W (h : Below w.heap.size w W) => same_any o p W (ho.below h) (hp.below h))
  have HRE := hid (fun W (h : Below w.heap.size w W) => same12_any o p W (ho.below h) (hp.below h))
  have HSS := hid (fun W (h : Below w.heap.size w W) => same_any o o W (ho.below h) (ho.below h))
  rw [show sameO o o = true from sameO_self o o.A o.c] at HSS
  unfold LayRes at HLY HRL
  have HI := hid (info_optsX o ho.mac)
  have HJ := hid (info_optsX p hp.mac)
  obtain ⟨f, hf⟩ : ∃ t, decide (500 < o.sacks.length) = t := ⟨_, rfl⟩
  obtain ⟨f2, hf2⟩ : ∃ t, decide (500 < p.sacks.length) = t := ⟨_, rfl⟩
  rw [hf] at HF
  rw [hf2] at HG
  have HFF := hid hf
  clear hf hf2
  generalize layO o = l at HLY HRL
  generalize layE o = le at HLY HRL
  generalize sizeO o = sz at HSZ HRS
  generalize mayO o = mo at HMY HRM
  generalize sameO o p = so at HSM HRE
  generalize o.cells = co at HF HLY HRL HSZ HRS HMY HRM HSM HRE HSS HI ⊢
  generalize p.cells = cp at HG HSM HRE HJ ⊢
  have BB := hid (Below.refl w.heap.size w)
  obtain ⟨B, hB⟩ : ∃ x, w.heap.size = x := ⟨_, rfl⟩
  rw [hB] at BB
  have HB := hid hB
  have HST := hid (fun W (h : Below B w W) => show B ≤ W.heap.size by have := h.size; have := HB.out; omega)
  have ALIVE := hid (fun W (h : Below B w W) => (alive12_any W).mono (fun e w' (h' : e = .returned (.bool true) ∧ Below W.heap.size W w') => (⟨h'.1, h.trans (h'.2.mono (HST.out W h))⟩ : e = .returned (.bool true) ∧ Below B w w')))
  rw [hB] at HF HG HLY HRL HSZ HRS HMY HRM HSM HRE HSS
  clear hB ho hp
  go_enter Try.func3, Try.ntmps3
  go_wp2_with (first
    | ((with_reducible refine at_slot 2 ?_); refine wpList_boxF rfl 27 (.tmp 0) rfl co rfl ?_; intro w1 hx1 hb1 hz1; rw [HB.out] at hx1 hb1 hz1 ⊢)
    | ((with_reducible refine at_slot 3 ?_); refine wpList_boxF rfl 27 (.tmp 1) rfl cp rfl ?_; intro w2 hx2 hb2 hz2; rw [hz1] at hx2 hb2 hz2 ⊢; have hy1 := (hb2.block _ (by omega)).trans hx1; replace BB := hid (hb1.trans (hb2.mono (by omega))); have X := hid hy1; have Y := hid hx2; clear hx1 hy1 hb1 hz1 hx2 hb2 hz2)
    | ((with_reducible refine at_slot 9 ?_); refine wpList_rowG rfl 27 (.tmp 2) rfl B rfl _ co _ X.out Try.underlying27 rfl HI.out ?_))
  (with_reducible refine Calls.mono (HF.out _ BB.out) ?_)
  rintro e w3 ⟨rfl, hb3⟩
  replace X := hid ((hb3.block _ (Array.getElem?_eq_some_iff.1 X.out).1).trans X.out)
  replace Y := hid ((hb3.block _ (Array.getElem?_eq_some_iff.1 Y.out).1).trans Y.out)
  replace BB := hid (BB.out.trans (hb3.mono (HST.out _ BB.out)))
  clear hb3
  cases f
  case true =>
    go_wp2_with fail
    (with_reducible refine Calls.mono (ALIVE.out _ BB.out) ?_)
    rintro e w4 ⟨rfl, hb4⟩
    have BF := hid hb4
    clear hb4
    go_wp2_with fail
    go_ret
    exact ⟨rfl, by rw [HB.out]; exact BF.out⟩
  have hsl : o.sacks.length ≤ 1000 := by have := of_decide_eq_false HFF.out; omega
  have HSL := hid hsl
  clear hsl
  go_wp2_with ((with_reducible refine at_slot 12 ?_); refine wpList_rowG rfl 27 (.tmp 3) rfl (B + 1) rfl _ cp _ Y.out Try.underlying27 rfl HJ.out ?_)
  (with_reducible refine Calls.mono (HG.out _ BB.out) ?_)
  rintro e w4 ⟨rfl, hb4⟩
  replace X := hid ((hb4.block _ (Array.getElem?_eq_some_iff.1 X.out).1).trans X.out)
  replace Y := hid ((hb4.block _ (Array.getElem?_eq_some_iff.1 Y.out).1).trans Y.out)
  replace BB := hid (BB.out.trans (hb4.mono (HST.out _ BB.out)))
  clear hb4
  cases f2
  case true =>
    go_wp2_with fail
    (with_reducible refine Calls.mono (ALIVE.out _ BB.out) ?_)
    rintro e w5 ⟨rfl, hb5⟩
    have BF := hid hb5
    clear hb5
    go_wp2_with fail
    go_ret
    exact ⟨rfl, by rw [HB.out]; exact BF.out⟩
  go_wp2_with ((with_reducible refine at_slot 17 ?_); refine wpList_rowG rfl 27 (.tmp 2) rfl B rfl _ co _ X.out Try.underlying27 rfl HI.out ?_)
  (with_reducible refine Calls.mono (HLY.out HSL.out _ BB.out) ?_)
  rintro e w5 ⟨A5, c5, rfl, ho5, hb5⟩
  have HO5 := hid ho5.rb
  clear ho5
  replace X := hid ((hb5.block _ (Array.getElem?_eq_some_iff.1 X.out).1).trans X.out)
  replace Y := hid ((hb5.block _ (Array.getElem?_eq_some_iff.1 Y.out).1).trans Y.out)
  replace BB := hid (BB.out.trans (hb5.mono (HST.out _ BB.out)))
  clear hb5
  go_wp2_with ((with_reducible refine at_slot 22 ?_); refine wpList_rowG rfl 27 (.tmp 2) rfl B rfl _ co _ X.out Try.underlying27 rfl HI.out ?_)
  (with_reducible refine Calls.mono (HRL.out HSL.out _ BB.out) ?_)
  rintro e w6 ⟨A6, c6, rfl, ho6, hb6⟩
  replace HO5 := hid (HO5.out.below hb6)
  have HO6 := hid ho6.rb
  clear ho6
  replace X := hid ((hb6.block _ (Array.getElem?_eq_some_iff.1 X.out).1).trans X.out)
  replace Y := hid ((hb6.block _ (Array.getElem?_eq_some_iff.1 Y.out).1).trans Y.out)
  replace BB := hid (BB.out.trans (hb6.mono (HST.out _ BB.out)))
  clear hb6
  go_upto_region 5 with fail
  refine wp_region_later w6.heap.size (Nat.le_refl _) (by kernel_rfl) (by kernel_rfl) ?_
  have bx := fun x : Later w6.heap.size w6 => x.blk X.out (Array.getElem?_eq_some_iff.1 X.out).1
  have bY := fun x : Later w6.heap.size w6 => x.blk Y.out (Array.getElem?_eq_some_iff.1 Y.out).1
  have DB := hid fun x : Later w6.heap.size w6 => BB.out.trans (x.ok.mono (HST.out _ BB.out))
  have s5 := fun x : Later w6.heap.size w6 => conv_str (HO5.out.below x.ok)
  have s6 := fun x : Later w6.heap.size w6 => conv_str (HO6.out.below x.ok)
  have q1 : ((strOf l).toList == (strOf l).toList) = true := beq_self_eq_true _
  have q2 : (mo == mo) = true := beq_self_eq_true _
  have q3 : (so == so) = true := beq_self_eq_true _
  repeat (first
    | ((with_reducible refine atq_slot 37 ?_); refine wpQuiet_row (by rfl) 27 (.tmp 2) rfl ⟨B, 0, none⟩ rfl co _ (row_later bx) Try.underlying27 rfl HI.out ?_; simp only [Act.put, List.setIfInBounds_toArray, List.set_cons_zero, List.set_cons_succ])
    | ((with_reducible refine atq_slot 39 ?_); refine wpQuiet_row (by rfl) 27 (.tmp 2) rfl ⟨B, 0, none⟩ rfl co _ (row_later bx) Try.underlying27 rfl HI.out ?_; simp only [Act.put, List.setIfInBounds_toArray, List.set_cons_zero, List.set_cons_succ])
    | ((with_reducible refine atq_slot 44 ?_); refine wpQuiet_row (by rfl) 27 (.tmp 2) rfl ⟨B, 0, none⟩ rfl co _ (row_later bx) Try.underlying27 rfl HI.out ?_; simp only [Act.put, List.setIfInBounds_toArray, List.set_cons_zero, List.set_cons_succ])
    | ((with_reducible refine atq_slot 46 ?_); refine wpQuiet_row (by rfl) 27 (.tmp 2) rfl ⟨B, 0, none⟩ rfl co _ (row_later bx) Try.underlying27 rfl HI.out ?_; simp only [Act.put, List.setIfInBounds_toArray, List.set_cons_zero, List.set_cons_succ])
    | ((with_reducible refine atq_slot 51 ?_); refine wpQuiet_row (by rfl) 27 (.tmp 2) rfl ⟨B, 0, none⟩ rfl co _ (row_later bx) Try.underlying27 rfl HI.out ?_; simp only [Act.put, List.setIfInBounds_toArray, List.set_cons_zero, List.set_cons_succ])
    | ((with_reducible refine atq_slot 52 ?_); refine wpQuiet_row (by rfl) 27 (.tmp 3) rfl ⟨B + 1, 0, none⟩ rfl cp _ (row_later bY) Try.underlying27 rfl HJ.out ?_; simp only [Act.put, List.setIfInBounds_toArray, List.set_cons_zero, List.set_cons_succ])
    | ((with_reducible refine atq_slot 54 ?_); refine wpQuiet_row (by rfl) 27 (.tmp 2) rfl ⟨B, 0, none⟩ rfl co _ (row_later bx) Try.underlying27 rfl HI.out ?_; simp only [Act.put, List.setIfInBounds_toArray, List.set_cons_zero, List.set_cons_succ])
    | ((with_reducible refine atq_slot 55 ?_); refine wpQuiet_row (by rfl) 27 (.tmp 3) rfl ⟨B + 1, 0, none⟩ rfl cp _ (row_later bY) Try.underlying27 rfl HJ.out ?_; simp only [Act.put, List.setIfInBounds_toArray, List.set_cons_zero, List.set_cons_succ])
    | ((with_reducible refine atq_slot 60 ?_); refine wpQuiet_row (by rfl) 27 (.tmp 2) rfl ⟨B, 0, none⟩ rfl co _ (row_later bx) Try.underlying27 rfl HI.out ?_; simp only [Act.put, List.setIfInBounds_toArray, List.set_cons_zero, List.set_cons_succ])
    | ((with_reducible refine atq_slot 61 ?_); refine wpQuiet_row (by rfl) 27 (.tmp 2) rfl ⟨B, 0, none⟩ rfl co _ (row_later bx) Try.underlying27 rfl HI.out ?_; simp only [Act.put, List.setIfInBounds_toArray, List.set_cons_zero, List.set_cons_succ])
    | go_big_quiet_step (first
      | (go_at_call 12; with_reducible exact quiet_later _ (Nat.le_refl _) (HSZ.out HSL.out _ (DB.out _)))
      | (go_at_call 13; with_reducible exact quiet_later _ (Nat.le_refl _) (HRS.out HSL.out _ (DB.out _)))
      | (go_at_call 14; with_reducible exact quiet_later _ (Nat.le_refl _) (HMY.out HSL.out _ (DB.out _)))
      | (go_at_call 15; with_reducible exact quiet_later _ (Nat.le_refl _) (HRM.out HSL.out _ (DB.out _)))
      | (go_at_call 16; with_reducible exact quiet_later _ (Nat.le_refl _) (HSM.out _ (DB.out _)))
      | (go_at_call 17; with_reducible exact quiet_later _ (Nat.le_refl _) (HRE.out _ (DB.out _)))
      | (go_at_call 16; with_reducible exact quiet_later _ (Nat.le_refl _) (HSS.out _ (DB.out _)))
      | (go_at_call 9; with_reducible exact quiet_later _ (Nat.le_refl _) (alive12_any _))))
  refine wpQuiet_nil ?_
  rintro _ ⟨x, rfl⟩
  have hfin := hid (DB.out x)
  clear bx bY s5 s6
  go_wp2_with fail
  go_ret
  exact ⟨rfl, by rw [HB.out]; exact hfin.out⟩
end Go.Proofs.Ythodepdgmcagjaa
