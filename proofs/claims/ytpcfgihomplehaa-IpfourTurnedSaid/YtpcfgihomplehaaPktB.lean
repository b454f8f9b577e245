/- Walk: whether two packets are the same. -/
import Derived.Test.YtpcfgihomplehaaPktA
import Derived.Test.YtpcfgihomplehaaAdrE
import Derived.Test.YtpcfgihomplehaaOps
import Derived.Test.YtpcfgihomplehaaEqual
import Derived.Test.YtpcfgihomplehaaStr
namespace Go.Proofs.Ytpcfgihomplehaa
set_option linter.unusedVariables false
set_option linter.unusedSimpArgs false
open Go.RowKit

def sameP (p q : Pkt) : Bool :=
  p.src.beq q.src && (p.dst.beq q.dst && (decide (p.proto = q.proto) && (decide (p.hops = q.hops) && (decide (p.id = q.id) && (p.whole == q.whole && (p.more == q.more && (decide (p.off = q.off) && decide (p.load = q.load))))))))
theorem sameP_iff (p q : Pkt) : sameP p q = true ↔ p = q := by
  unfold sameP
  cases p; cases q
  simp [Adr.beq_iff]
theorem sameP_self (p : Pkt) : sameP p p = true := (sameP_iff p p).2 rfl
theorem Pkt.srcAt (p : Pkt) (dv : Value) : ∀ (j : Nat) u, p.src.cells[j]? = some u → (p.cells dv)[0 + j]? = some u := by
  intro j u h
  rw [Nat.zero_add]
  unfold Pkt.cells
  rw [List.getElem?_toArray, List.getElem?_append_left (by have := (Array.getElem?_eq_some_iff.1 h).1; simpa using this)]
  simpa using h
theorem Pkt.dstAt (p : Pkt) (dv : Value) : ∀ (j : Nat) u, p.dst.cells[j]? = some u → (p.cells dv)[17 + j]? = some u := by
  intro j u h
  unfold Pkt.cells
  have h17 : p.src.cells.toList.length = 17 := rfl
  rw [List.getElem?_toArray, List.getElem?_append_right (by omega), h17, Nat.add_sub_cancel_left, List.getElem?_append_left (by have := (Array.getElem?_eq_some_iff.1 h).1; simpa using this)]
  simpa using h
set_option maxHeartbeats 2000000 in
theorem same_any (p q : Pkt) (dv du : Value) (w : World) (hp : RB w dv p.load) (hq : RB w du q.load) :
    Calls Try.prog 14 #[p.v dv, q.v du] w fun e w' => e = .returned (.bool (sameP p q)) ∧ Below w.heap.size w w' := by
  have q1 := fun o1 o2 : Obj => conv_str ((hp.alloc o1).alloc o2)
  have q2 := fun o1 o2 : Obj => conv_str ((hq.alloc o1).alloc o2)
  have q3 := strOf_beq p.load q.load
  obtain ⟨f0, f1, f2, f3, f4, f5, f6, f7, f8⟩ := p.at_ dv
  obtain ⟨g0, g1, g2, g3, g4, g5, g6, g7, g8⟩ := q.at_ du
  have ps := p.srcAt dv
  have pd := p.dstAt dv
  have qs := q.srcAt du
  have qd := q.dstAt du
  have PS := hid ps
  have PD := hid pd
  have QS := hid qs
  have QD := hid qd
  clear ps pd qs qd f0 f1 g0 g1 hp hq
  obtain ⟨r, hr⟩ : ∃ r, r = sameP p q := ⟨_, rfl⟩
  rw [← hr]
  unfold sameP at hr
  have HM := hid hr
  clear hr
  unfold Pkt.v
  generalize p.cells dv = cs at f2 f3 f4 f5 f6 f7 f8 PS PD
  generalize q.cells du = ds at g2 g3 g4 g5 g6 g7 g8 QS QD
  generalize hb1 : p.src.beq q.src = b1 at HM
  generalize hb2 : p.dst.beq q.dst = b2 at HM
  have HB1 := hid hb1
  have HB2 := hid hb2
  clear hb1 hb2
  cases b1
  · go_enter Try.func14, Try.ntmps14
    go_wp2_with (first
      | ((with_reducible refine at_slot 6 ?_); refine wpList_load_at 24 (.tmp 5) rfl rfl ⟨w.heap.size, 0, none⟩ rfl p.src.cells _ (cells_part (nw2a w _ _) PS.out) Try.underlying24 rfl (info_addr _) ?_)
      | ((with_reducible refine at_slot 8 ?_); refine wpList_load_at 24 (.tmp 7) rfl rfl ⟨w.heap.size + 1, 0, none⟩ rfl q.src.cells _ (cells_part (nw2 w _ _) QS.out) Try.underlying24 rfl (info_addr _) ?_)
      | ((with_reducible refine at_slot 9 ?_); refine wpList_yieldG rfl (exec_eqlA (.tmp 6) (.tmp 8) rfl p.src q.src rfl rfl) ?_; rw [HB1.out])
      | ((with_reducible refine at_slot 12 ?_); refine wpList_yieldG rfl (exec_loadAt 24 (.tmp 11) rfl ⟨w.heap.size, 17, none⟩ rfl p.dst.cells _ (cells_part (nw2a w _ _) PD.out) Try.underlying24 rfl (info_addr _)) ?_)
      | ((with_reducible refine at_slot 14 ?_); refine wpList_yieldG rfl (exec_loadAt 24 (.tmp 13) rfl ⟨w.heap.size + 1, 17, none⟩ rfl q.dst.cells _ (cells_part (nw2 w _ _) QD.out) Try.underlying24 rfl (info_addr _)) ?_)
      | ((with_reducible refine at_slot 15 ?_); refine wpList_yieldG rfl (exec_eqlA (.tmp 12) (.tmp 14) rfl p.dst q.dst rfl rfl) ?_; rw [HB2.out]))
    go_ret
    refine ⟨congrArg Ending.returned (congrArg Value.bool ?_), bl2 w _ _⟩
    rw [HM.out]
    rfl
  · cases b2
    · go_enter Try.func14, Try.ntmps14
      go_wp2_with (first
      | ((with_reducible refine at_slot 6 ?_); refine wpList_load_at 24 (.tmp 5) rfl rfl ⟨w.heap.size, 0, none⟩ rfl p.src.cells _ (cells_part (nw2a w _ _) PS.out) Try.underlying24 rfl (info_addr _) ?_)
      | ((with_reducible refine at_slot 8 ?_); refine wpList_load_at 24 (.tmp 7) rfl rfl ⟨w.heap.size + 1, 0, none⟩ rfl q.src.cells _ (cells_part (nw2 w _ _) QS.out) Try.underlying24 rfl (info_addr _) ?_)
      | ((with_reducible refine at_slot 9 ?_); refine wpList_yieldG rfl (exec_eqlA (.tmp 6) (.tmp 8) rfl p.src q.src rfl rfl) ?_; rw [HB1.out])
      | ((with_reducible refine at_slot 12 ?_); refine wpList_yieldG rfl (exec_loadAt 24 (.tmp 11) rfl ⟨w.heap.size, 17, none⟩ rfl p.dst.cells _ (cells_part (nw2a w _ _) PD.out) Try.underlying24 rfl (info_addr _)) ?_)
      | ((with_reducible refine at_slot 14 ?_); refine wpList_yieldG rfl (exec_loadAt 24 (.tmp 13) rfl ⟨w.heap.size + 1, 17, none⟩ rfl q.dst.cells _ (cells_part (nw2 w _ _) QD.out) Try.underlying24 rfl (info_addr _)) ?_)
      | ((with_reducible refine at_slot 15 ?_); refine wpList_yieldG rfl (exec_eqlA (.tmp 12) (.tmp 14) rfl p.dst q.dst rfl rfl) ?_; rw [HB2.out]))
      go_ret
      refine ⟨congrArg Ending.returned (congrArg Value.bool ?_), bl2 w _ _⟩
      rw [HM.out]
      rfl
    · go_enter Try.func14, Try.ntmps14
      go_wp2_with (first
      | ((with_reducible refine at_slot 6 ?_); refine wpList_load_at 24 (.tmp 5) rfl rfl ⟨w.heap.size, 0, none⟩ rfl p.src.cells _ (cells_part (nw2a w _ _) PS.out) Try.underlying24 rfl (info_addr _) ?_)
      | ((with_reducible refine at_slot 8 ?_); refine wpList_load_at 24 (.tmp 7) rfl rfl ⟨w.heap.size + 1, 0, none⟩ rfl q.src.cells _ (cells_part (nw2 w _ _) QS.out) Try.underlying24 rfl (info_addr _) ?_)
      | ((with_reducible refine at_slot 9 ?_); refine wpList_yieldG rfl (exec_eqlA (.tmp 6) (.tmp 8) rfl p.src q.src rfl rfl) ?_; rw [HB1.out])
      | ((with_reducible refine at_slot 12 ?_); refine wpList_yieldG rfl (exec_loadAt 24 (.tmp 11) rfl ⟨w.heap.size, 17, none⟩ rfl p.dst.cells _ (cells_part (nw2a w _ _) PD.out) Try.underlying24 rfl (info_addr _)) ?_)
      | ((with_reducible refine at_slot 14 ?_); refine wpList_yieldG rfl (exec_loadAt 24 (.tmp 13) rfl ⟨w.heap.size + 1, 17, none⟩ rfl q.dst.cells _ (cells_part (nw2 w _ _) QD.out) Try.underlying24 rfl (info_addr _)) ?_)
      | ((with_reducible refine at_slot 15 ?_); refine wpList_yieldG rfl (exec_eqlA (.tmp 12) (.tmp 14) rfl p.dst q.dst rfl rfl) ?_; rw [HB2.out]))
      all_goals
        go_ret
        refine ⟨congrArg Ending.returned (congrArg Value.bool ?_), bl2 w _ _⟩
        rw [HM.out]
        clear q1 q2 f2 f3 f4 f5 f6 f7 f8 g2 g3 g4 g5 g6 g7 g8
        rw [Bool.eq_iff_iff]
        simp [← UInt8.toNat_inj] at *
        try simp [*]
        try omega
        try (constructor <;> intro hh <;> simp_all)
        try omega
end Go.Proofs.Ytpcfgihomplehaa
