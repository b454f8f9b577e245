/- Walk: options without what they do not have (the document's kept). -/
import Derived.Test.YthnidgiogjehkaaSam12
import Derived.Test.YthnidgiogjehkaaOptZ
import Derived.Deep.DeepCutAuto
import Derived.Lib.Builder
namespace Go.Proofs.Ythnidgiogjehkaa
set_option linter.unusedVariables false
set_option linter.unusedSimpArgs false
set_option maxRecDepth 20000
open Go.RowKit

/-- How a function ends whose one result stands in a block. -/
theorem ret_cell1 {P : Program} {w : World} {fn : Func} {R : Ending → World → Prop} {tmps : Array Value} {p : Tmp} {b : Nat} {cs : Array Value} {T : TypeId} {fz : Nat × Nat} {d : TypeDesc} (hf : fn.results = #[.cell p T]) (hp : tmps.getD p undef = .pointer (some ⟨b, 0, none⟩))
    (hb : w.heap[b]? = some (.cells cs T fz)) (hu : P.underlying T = some d) (hd : (match d with | .struct _ | .array _ _ => true | _ => false) = true) (hi : (P.info? T).map (·.size) = some cs.size) (hR : R (.returned (.agg cs)) w) : bodyPost P fn R .ret ⟨tmps, []⟩ w := by
  have hp' : tmps[p]?.getD undef = .pointer (some ⟨b, 0, none⟩) := by simpa using hp
  refine bodyPost_ret (v := .agg cs) ?_ rfl hR
  simp [results, hf, hp', asAddr, run_loadVar_row w b T T cs fz d hb hu hd hi]
def kA (o : OptM) : OptM := if o.hasMSS then o else { o with mss := 0 }
def kB (o : OptM) : OptM := if o.hasScale then o else { o with scale := 0 }
def kC (o : OptM) : OptM := if o.hasTime then o else { o with val := 0, echo := 0 }
def kD (o : OptM) : OptM := if o.hasAO then o else { o with key := 0, next := 0, mac := zeros12 }
def keptO (o : OptM) : OptM := kD (kC (kB (kA o)))
theorem set_mss (o : OptM) (h : o.mac.length = 12) : o.cells.setIfInBounds 1 (.int .u16 0) = ({ o with mss := 0 } : OptM).cells := by
  unfold OptM.cells OptM.head
  simp
theorem set_scale (o : OptM) (h : o.mac.length = 12) : o.cells.setIfInBounds 3 (.int .u8 0) = ({ o with scale := 0 } : OptM).cells := by
  unfold OptM.cells OptM.head
  simp
theorem set_time (o : OptM) (h : o.mac.length = 12) : (o.cells.setIfInBounds 7 (.int .u32 0)).setIfInBounds 8 (.int .u32 0) = ({ o with val := 0, echo := 0 } : OptM).cells := by
  unfold OptM.cells OptM.head
  simp
theorem set_mac (o : OptM) (h : o.mac.length = 12) : (((o.cells.setIfInBounds 10 (.int .u8 0)).setIfInBounds 11 (.int .u8 0)).toList.take 12 ++ by8 zeros12 ++ ((o.cells.setIfInBounds 10 (.int .u8 0)).setIfInBounds 11 (.int .u8 0)).toList.drop (12 + (by8 zeros12).length)) = ({ o with key := 0, next := 0, mac := zeros12 } : OptM).cells.toList := by
  unfold OptM.cells OptM.head
  simp [by8, zeros12, h]
theorem kA_ok {w : World} {o : OptM} (h : OptOk w o) : OptOk w (kA o) := by
  unfold kA
  split
  · exact h
  · exact ⟨by show 0 < 65536; decide, h.scale, h.val, h.echo, h.key, h.next, h.mac, h.row, h.ok⟩
theorem kB_ok {w : World} {o : OptM} (h : OptOk w o) : OptOk w (kB o) := by
  unfold kB
  split
  · exact h
  · exact ⟨h.mss, by show 0 < 256; decide, h.val, h.echo, h.key, h.next, h.mac, h.row, h.ok⟩
theorem kC_ok {w : World} {o : OptM} (h : OptOk w o) : OptOk w (kC o) := by
  unfold kC
  split
  · exact h
  · exact ⟨h.mss, h.scale, by show 0 < 4294967296; decide, by show 0 < 4294967296; decide, h.key, h.next, h.mac, h.row, h.ok⟩
theorem kD_ok {w : World} {o : OptM} (h : OptOk w o) : OptOk w (kD o) := by
  unfold kD
  split
  · exact h
  · exact ⟨h.mss, h.scale, h.val, h.echo, by show 0 < 256; decide, by show 0 < 256; decide, rfl, h.row, h.ok⟩
theorem keptO_ok {w : World} {o : OptM} (h : OptOk w o) : OptOk w (keptO o) := kD_ok (kC_ok (kB_ok (kA_ok h)))
set_option maxRecDepth 20000 in
set_option maxHeartbeats 4000000 in
theorem kept_any (o : OptM) (w : World) (ho : OptOk w o) : Calls Try.prog 58 #[.agg o.cells] w fun e w' => e = .returned (.agg (keptO o).cells) ∧ Below w.heap.size w w' := by
  have HO := hid ho
  unfold keptO
  generalize hoa : kA o = oa
  generalize hob : kB oa = ob
  generalize hoc : kC ob = oc
  generalize hod : kD oc = od
  have ka := hid (hoa ▸ kA_ok ho)
  have kb := hid (hob ▸ kB_ok ka.out)
  have kc := hid (hoc ▸ kC_ok kb.out)
  have kd := hid (hod ▸ kD_ok kc.out)
  have HA := hid hoa
  have HB := hid hob
  have HC := hid hoc
  have HD := hid hod
  clear hoa hob hoc hod ho
  have HPC := hid (fun (o : OptM) (W : World) (g : Nat) (h : W.heap[g]? = some (.cells o.cells 31 (0, 0))) => opt_cells h)
  have HFZ := hid (fun (o : OptM) (W : World) (g k : Nat) (h : W.heap[g]? = some (.cells o.cells 31 (0, 0))) => Lib.frozen_of_heap h k)
  obtain ⟨B, hB⟩ : ∃ B, w.heap.size = B := ⟨_, rfl⟩
  have HBB := hid hB
  clear hB
  go_enter Try.func58, Try.ntmps58
  go_upto_if 5 with (first
    | ((with_reducible refine at_slot 1 ?_); refine wpList_boxF rfl 31 (.tmp 0) rfl o.cells rfl ?_; intro w1 hx1 hb1 hz1; rw [HBB.out] at hx1 hb1 hz1 ⊢)
    | ((with_reducible refine at_slot 2 ?_); refine wpList_allocF rfl 31 rfl _ alloc_noOpt ?_; intro w2 hx2 hb2 hz2; rw [hz1] at hx2 hb2 ⊢; have hy1 := (hb2.block _ (by omega)).trans hx1; obtain ⟨e0, e1, e2, e3, e4, e5, e6, e7, e8, e9, e10, e11⟩ := HPC.out o w2 B hy1))
  have HX := hid hy1
  have HR := hid hx2
  have BB := hid (hb1.trans (hb2.mono (by omega)))
  clear hx1 hb1 hz1 hx2 hb2 hz2 hy1
  go_cut [] (fun wx => wx.heap[B]? = some (.cells oa.cells 31 (0, 0)) ∧ wx.heap[B + 1]? = some (.cells noOpt.cells 31 (0, 0)) ∧ Below B w wx)
  case first =>
    cases hm : o.hasMSS
    · have hn : oa.cells = o.cells.setIfInBounds 1 (.int .u16 0) := by rw [← HA.out, kA, if_neg (by rw [hm]; decide), set_mss o HO.out.mac]
      have HN := hid hn
      clear hn hm
      have z1 := HFZ.out o _ B 1 HX.out
      go_wp2_with fail
      go_meet
      case rel => exact ⟨by rw [HN.out]; exact rowSetCell HX.out 1 _, (rowSetCell_far (by omega) _ _).trans HR.out, BB.out.setCell (p := ⟨B, 1, none⟩) (Nat.le_refl _) _⟩
    · have hn : oa = o := by rw [← HA.out, kA, if_pos hm]
      have HN := hid hn
      clear hn hm
      go_wp2_with fail
      go_meet
      case rel => exact ⟨by rw [HN.out]; exact HX.out, HR.out, BB.out⟩
  case rest =>
    obtain ⟨hx3, hr3, hb3⟩ := hcut
    clear HX HR BB e0 e1 e2 e3 e4 e5 e6 e7 e8 e9 e10 e11
    have HX := hid hx3
    have HR := hid hr3
    have BB := hid hb3
    clear hx3 hr3 hb3
    obtain ⟨e0, e1, e2, e3, e4, e5, e6, e7, e8, e9, e10, e11⟩ := HPC.out oa _ B HX.out
    go_upto_if 9 with fail
    go_cut [] (fun wx => wx.heap[B]? = some (.cells ob.cells 31 (0, 0)) ∧ wx.heap[B + 1]? = some (.cells noOpt.cells 31 (0, 0)) ∧ Below B w wx)
    case first =>
      cases hm : oa.hasScale
      · have hn : ob.cells = oa.cells.setIfInBounds 3 (.int .u8 0) := by rw [← HB.out, kB, if_neg (by rw [hm]; decide), set_scale oa ka.out.mac]
        have HN := hid hn
        clear hn hm
        have z3 := HFZ.out oa _ B 3 HX.out
        go_wp2_with fail
        go_meet
        case rel => exact ⟨by rw [HN.out]; exact rowSetCell HX.out 3 _, (rowSetCell_far (by omega) _ _).trans HR.out, BB.out.setCell (p := ⟨B, 3, none⟩) (Nat.le_refl _) _⟩
      · have hn : ob = oa := by rw [← HB.out, kB, if_pos hm]
        have HN := hid hn
        clear hn hm
        go_wp2_with fail
        go_meet
        case rel => exact ⟨by rw [HN.out]; exact HX.out, HR.out, BB.out⟩
    case rest =>
      obtain ⟨hx3, hr3, hb3⟩ := hcut
      clear HX HR BB e0 e1 e2 e3 e4 e5 e6 e7 e8 e9 e10 e11
      have HX := hid hx3
      have HR := hid hr3
      have BB := hid hb3
      clear hx3 hr3 hb3
      obtain ⟨e0, e1, e2, e3, e4, e5, e6, e7, e8, e9, e10, e11⟩ := HPC.out ob _ B HX.out
      go_upto_if 13 with fail
      go_cut [] (fun wx => wx.heap[B]? = some (.cells oc.cells 31 (0, 0)) ∧ wx.heap[B + 1]? = some (.cells noOpt.cells 31 (0, 0)) ∧ Below B w wx)
      case first =>
        cases hm : ob.hasTime
        · have hn : oc.cells = (ob.cells.setIfInBounds 7 (.int .u32 0)).setIfInBounds 8 (.int .u32 0) := by rw [← HC.out, kC, if_neg (by rw [hm]; decide), set_time ob kb.out.mac]
          have HN := hid hn
          clear hn hm
          have z7 := HFZ.out ob _ B 7 HX.out
          have z8 := HFZ.out ob _ B 8 HX.out
          go_wp2_with fail
          go_meet
          case rel => exact ⟨by rw [HN.out]; exact rowSetCell (rowSetCell HX.out 7 _) 8 _, (rowSetCell_far (by omega) _ _).trans ((rowSetCell_far (by omega) _ _).trans HR.out), (BB.out.setCell (p := ⟨B, 7, none⟩) (Nat.le_refl _) _).setCell (p := ⟨B, 8, none⟩) (Nat.le_refl _) _⟩
        · have hn : oc = ob := by rw [← HC.out, kC, if_pos hm]
          have HN := hid hn
          clear hn hm
          go_wp2_with fail
          go_meet
          case rel => exact ⟨by rw [HN.out]; exact HX.out, HR.out, BB.out⟩
      case rest =>
        obtain ⟨hx3, hr3, hb3⟩ := hcut
        clear HX HR BB e0 e1 e2 e3 e4 e5 e6 e7 e8 e9 e10 e11
        have HX := hid hx3
        have HR := hid hr3
        have BB := hid hb3
        clear hx3 hr3 hb3
        obtain ⟨e0, e1, e2, e3, e4, e5, e6, e7, e8, e9, e10, e11⟩ := HPC.out oc _ B HX.out
        go_upto_if 18 with fail
        go_cut [] (fun wx => wx.heap[B]? = some (.cells od.cells 31 (0, 0)) ∧ wx.heap[B + 1]? = some (.cells noOpt.cells 31 (0, 0)) ∧ Below B w wx)
        case first =>
          cases hm : oc.hasAO
          · have hn : (((oc.cells.setIfInBounds 10 (.int .u8 0)).setIfInBounds 11 (.int .u8 0)).toList.take 12 ++ by8 zeros12 ++ ((oc.cells.setIfInBounds 10 (.int .u8 0)).setIfInBounds 11 (.int .u8 0)).toList.drop (12 + (by8 zeros12).length)) = od.cells.toList := by rw [← HD.out, kD, if_neg (by rw [hm]; decide)]; exact set_mac oc kc.out.mac
            have HN := hid hn
            clear hn hm
            have z10 := HFZ.out oc _ B 10 HX.out
            have z11 := HFZ.out oc _ B 11 HX.out
            go_wp2_with (first
              | ((with_reducible refine at_build 29 ?_); refine wpList_buildF rfl 29 _ rfl #[] (by simp) _ build_12 ?_)
              | ((with_reducible refine at_store 22 19 ?_); refine wpList_partF rfl 29 (.tmp 22) (.tmp 19) rfl B 12 31 _ od.cells (by8 zeros12) rfl rfl (rowSetCell (rowSetCell HX.out 10 (.int .u8 0)) 11 (.int .u8 0)) (by simp [oc.size kc.out.mac, by8, zeros12]) (by8_one _) (by rw [size_12]; rfl) HN.out ?_; intro w6 h6 m6 z6))
            go_meet
            case rel => exact ⟨h6, (m6.keeps ((rowSetCell_far (by omega) _ _).trans ((rowSetCell_far (by omega) _ _).trans HR.out)) (by simp)), Mod.below ((BB.out.setCell (p := ⟨B, 10, none⟩) (Nat.le_refl _) _).setCell (p := ⟨B, 11, none⟩) (Nat.le_refl _) _) m6 (Nat.le_of_eq HBB.out.symm) (by simp)⟩
          · have hn : od = oc := by rw [← HD.out, kD, if_pos hm]
            have HN := hid hn
            clear hn hm
            go_wp2_with fail
            go_meet
            case rel => exact ⟨by rw [HN.out]; exact HX.out, HR.out, BB.out⟩
        case rest =>
          obtain ⟨hx3, hr3, hb3⟩ := hcut
          clear HX HR BB e0 e1 e2 e3 e4 e5 e6 e7 e8 e9 e10 e11
          have HX := hid hx3
          have HR := hid hr3
          have BB := hid hb3
          clear hx3 hr3 hb3
          obtain ⟨e0, e1, e2, e3, e4, e5, e6, e7, e8, e9, e10, e11⟩ := HPC.out od _ B HX.out
          have HSZ := hid (show noOpt.cells.size = od.cells.size by rw [od.size kd.out.mac]; rfl)
          have HIO := hid (show (Try.prog.info? 31).map (·.size) = some od.cells.size by rw [od.size kd.out.mac]; kernel_rfl)
          clear e0 e1 e2 e3 e4 e5 e6 e7 e8 e9 e10 e11
          go_wp2_with (first
            | ((with_reducible refine at_slot 23 ?_); refine wpList_load_row rfl 31 (.tmp 1) rfl B rfl _ od.cells _ _ HX.out Try.underlying31 rfl HIO.out ?_)
            | ((with_reducible refine at_store 2 23 ?_); refine wpList_rowF rfl 31 (.tmp 2) (.tmp 23) rfl (B + 1) 31 _ od.cells rfl rfl HR.out HIO.out HSZ.out od.one ?_; intro w6 h6 m6 z6))
          simp only [Act.put, List.setIfInBounds_toArray, List.set_cons_zero, List.set_cons_succ]
          have hb6 := Mod.below BB.out m6 (Nat.le_of_eq HBB.out.symm) (by simp)
          refine ret_cell1 (p := 2) rfl rfl h6 Try.underlying31 rfl HIO.out ⟨rfl, by rw [HBB.out]; exact hb6⟩
end Go.Proofs.Ythnidgiogjehkaa
