/- Walk of the law SackNobody. -/
import Derived.Test.YtkflolbphiffbaaSackG
namespace Go.Proofs.Ytkflolbphiffbaa
set_option linter.unusedVariables false
set_option linter.unusedSimpArgs false
open Go.RowKit

section
variable {P : Program} {ops : Array Oper} {rest : List Oper} {o : Oper} {a : Act} {w : World} {Q : Exit → Act → World → Prop}
theorem wpList_litF (hw : Region.wanted o (yielded ops a.tmps) = true) (t E : TypeId) (n : Nat) (parts : Array (Nat × Operand)) (ho : o.op = .buildSlice t n parts) (vals : Array (Nat × Value)) (hp : parts.map (fun (i, x) => (i, a.eval x)) = vals) (cs : Array Value)
    (hz : ∀ w, (Instr.buildSlice t n vals).run P w = .ok (.slice (some ⟨w.heap.size, 0, none⟩) n n) (w.alloc (.cells cs E)))
    (h : ∀ w', w'.heap[w.heap.size]? = some (.cells cs E (0, 0)) → Below w.heap.size w w' → w'.heap.size = w.heap.size + 1 → wpList P ops Q rest (a.put o.dst (.slice (some ⟨w.heap.size, 0, none⟩) n n)) w') : wpList P ops Q (o :: rest) a w :=
  wpList_yieldG hw (by unfold execOp; simp only [ho, hp, Sem.run_bind, hz, Result.andThen_ok, Sem.run_pure]) (h _ (nw1 w _) (bl1 w _) (by simp))
end
theorem short_one (b : Nat) (w : World) : Calls Try.prog 9 #[.slice (some ⟨b, 0, none⟩) 1 1] w fun e w' => e = .returned (.slice (some ⟨b, 0, none⟩) 1 1) ∧ w = w' := by
  go_enter Try.func9, Try.ntmps9
  go_wp2
  go_ret
  exact ⟨rfl, rfl⟩
def stC (k nx fr ms : Int) (A : Option Addr) (n c : Nat) : Array Value := #[.int .u8 k, .int .u32 nx, .int .u32 fr, .int .i64 ms, .slice A n c]
theorem info_st (k nx fr ms : Int) (A : Option Addr) (n c : Nat) : (Try.prog.info? 31).map (·.size) = some (stC k nx fr ms A n c).size := by
  have : (stC k nx fr ms A n c).size = 5 := rfl
  rw [this]
  exact (by kernel_rfl : (Try.prog.info? 31).map (·.size) = some 5)
set_option maxHeartbeats 1000000 in
theorem far_one (k nx fr ms : Int) (A : Option Addr) (n c : Nat) (b : Nat) (w : World) (h : w.heap[b]? = some (.cells (stC k nx fr ms A n c) 31 (0, 0))) :
    Calls Try.prog 7 #[.slice (some ⟨b, 0, none⟩) 1 1] w fun e w' => e = .returned (.bool (decide (20 < n))) ∧ Below w.heap.size w w' := by
  have c0 := cellRow h 0
  have c1 := cellRow h 1
  have c2 := cellRow h 2
  have c3 := cellRow h 3
  have c4 := cellRow h 4
  unfold stC at c0 c1 c2 c3 c4
  simp only [List.getElem?_toArray, List.getElem?_cons_succ, List.getElem?_cons_zero] at c0 c1 c2 c3 c4
  have HS := hid fun W => short_one b W
  obtain ⟨t, ht⟩ : ∃ t, decide (20 < n) = t := ⟨_, rfl⟩
  have ht2 : decide ((20 : Int) < (n : Int)) = t := by rw [← ht, decide_eq_decide]; omega
  rw [ht]
  clear h
  go_enter Try.func7, Try.ntmps7
  go_wp2_with fail
  (with_reducible refine Calls.mono (HS.out _) ?_)
  rintro e w' ⟨rfl, rfl⟩
  go_wp2_with fail
  go_loopw [8] (fun i wr => (i = .int .i64 0 ∧ wr = w) ∨ (i = .int .i64 1 ∧ t = false ∧ Below w.heap.size w wr)) (fun i _ => 2 - (intOf i).toNat)
  case atStart => exact .inl ⟨rfl, rfl⟩
  case round =>
    rcases hrel with ⟨rfl, rfl⟩ | ⟨rfl, rfl, hb⟩
    · cases t
      · go_wp2_with fail
        go_roundw
        case rel => exact .inr ⟨by go_num, (by first | trivial | rfl), bl1 _ _⟩
        case measure => simp [intOf]
      · go_wp2_with fail
        go_ret
        exact ⟨rfl, bl1 _ _⟩
    · go_wp2_with fail
      go_ret
      exact ⟨rfl, hb⟩
theorem lit_st (k nx fr ms : Int) (A : Option Addr) (n c : Nat) : ∀ w, (Instr.buildSlice 23 1 #[(0, .agg (stC k nx fr ms A n c))]).run Try.prog w = .ok (.slice (some ⟨w.heap.size, 0, none⟩) 1 1) (w.alloc (.cells (stC k nx fr ms A n c) 31)) := by intro w; kernel_rfl
theorem build_brd : ∀ w, (Instr.build 46 #[]).run Try.prog w = .ok (.agg #[.bool false, .int .u32 0, .slice none 0 0]) w := by intro w; kernel_rfl
set_option maxHeartbeats 2000000 in
theorem lawNobody_any (k nx fr ms : Int) (A : Option Addr) (n c : Nat) (w : World) :
    Calls Try.prog 5 #[.agg (stC k nx fr ms A n c)] w fun e w' => e = .returned (.bool true) ∧ Below w.heap.size w w' := by
  have HF := hid fun W b (h : W.heap[b]? = some (.cells (stC k nx fr ms A n c) 31 (0, 0))) => far_one k nx fr ms A n c b W h
  obtain ⟨t, ht⟩ : ∃ t, decide (20 < n) = t := ⟨_, rfl⟩
  rw [ht] at HF
  clear ht
  have HI := hid (info_st k nx fr ms A n c)
  go_enter Try.func5, Try.ntmps5
  go_step
  go_step
  go_step
  refine wpList_boxF rfl 31 (.tmp 0) rfl (stC k nx fr ms A n c) rfl ?_
  intro w1 h1 hb1 s1
  have hl1 : w.heap.size < w1.heap.size := by omega
  clear s1
  go_wp2_with (first
    | ((with_reducible refine at_slot 8 ?_); refine wpList_load_row rfl 31 (.tmp 1) rfl w.heap.size rfl _ (stC k nx fr ms A n c) _ _ h1 Try.underlying31 rfl HI.out ?_)
    | ((with_reducible refine at_slot 9 ?_); refine wpList_litF rfl 23 31 1 _ rfl #[(0, .agg (stC k nx fr ms A n c))] (by simp [Act.eval, Act.put]) _ (lit_st _ _ _ _ _ _ _) ?_; intro w2 h2 hb2 s2; clear s2))
  (with_reducible refine Calls.mono (HF.out _ _ h2) ?_)
  rintro e w3 ⟨rfl, hb3⟩
  have hB3 := below_after hb1 (below_after hb2 hb3 (Nat.le_refl _)) (Nat.le_refl _)
  have h3 := (hb3.block _ (Nat.lt_of_lt_of_le hl1 hb2.size)).trans ((hb2.block _ hl1).trans h1)
  have hl3 := Nat.lt_of_lt_of_le (Nat.lt_of_lt_of_le hl1 hb2.size) hb3.size
  clear hb1 hb2 hb3 h1 h2 hl1
  cases t
  · go_wp2_with (first
      | ((with_reducible refine at_build 46 ?_); refine wpList_buildF rfl 46 _ rfl #[] rfl _ build_brd ?_))
    obtain ⟨W, hW, k1, k2, kb, ks⟩ := two_blocks w3 (.cells #[.bool false, .int .u32 0, .slice none 0 0] 46) (.cells #[.pointer none, .pointer (some ⟨w3.heap.size, 0, none⟩)] 24)
    rw [← hW]
    have hB4 := hid (below_after hB3 kb (Nat.le_refl _))
    have h4 := (kb.block _ hl3).trans h3
    have q1 := cellRow h4 1
    have q2 := cellRow h4 2
    have q3 := cellRow h4 3
    have q4 := cellRow h4 4
    unfold stC at q1 q2 q3 q4
    have e0 := cellRow k2 0
    have e1 := cellRow k2 1
    have m0 := cellRow k1 0
    simp only [List.getElem?_toArray, List.getElem?_cons_succ, List.getElem?_cons_zero] at q1 q2 q3 q4 e0 e1 m0
    have N0 := hid (show NoB W (.pointer none) from .inl rfl)
    have N1 := hid (show NoB W (.pointer (some ⟨w3.heap.size, 0, none⟩)) from .inr ⟨_, rfl, m0⟩)
    clear hW ks k1 k2 kb h3 h4 hB3 hl3 m0
    go_loopw [16] (fun i wr => (i = .int .i64 0 ∨ i = .int .i64 1 ∨ i = .int .i64 2) ∧ wr = W) (fun i _ => 3 - (intOf i).toNat)
    case atStart => exact ⟨.inl rfl, rfl⟩
    case round =>
      obtain ⟨hi, rfl⟩ := hrel
      rcases hi with rfl | rfl | rfl
      · have HN := N0
        go_wp2_with (first
          | (go_at_call 17; (with_reducible refine Calls.mono (reset_no _ _ HN.out) ?_); rintro e w' ⟨rfl, rfl⟩)
          | (go_at_call 11; (with_reducible refine Calls.mono (hole_no _ _ _ _ _ HN.out) ?_); rintro e w' ⟨rfl, rfl⟩)
          | (go_at_call 10; (with_reducible refine Calls.mono (add_no _ _ _ _ HN.out) ?_); rintro e w' ⟨rfl, rfl⟩)
          | (go_at_call 14; (with_reducible refine Calls.mono (advance_no _ _ _ HN.out) ?_); rintro e w' ⟨rfl, rfl⟩)
          | (go_at_call 13; (with_reducible refine Calls.mono (has_no _ _ _ HN.out) ?_); rintro e w' ⟨rfl, rfl⟩)
          | (go_at_call 16; (with_reducible refine Calls.mono (bytes_no _ _ HN.out) ?_); rintro e w' ⟨rfl, rfl⟩)
          | (go_at_call 12; (with_reducible refine Calls.mono (blocks_no _ _ HN.out) ?_); rintro e w' ⟨rfl, rfl⟩)
          | (go_at_call 15; (with_reducible refine Calls.mono (first_no _ _ HN.out) ?_); rintro e w' ⟨rfl, rfl⟩))
        go_roundw
        case rel => exact ⟨.inr (.inl (by go_num)), (by first | trivial | rfl)⟩
        case measure => simp [intOf]
      · have HN := N1
        go_wp2_with (first
          | (go_at_call 17; (with_reducible refine Calls.mono (reset_no _ _ HN.out) ?_); rintro e w' ⟨rfl, rfl⟩)
          | (go_at_call 11; (with_reducible refine Calls.mono (hole_no _ _ _ _ _ HN.out) ?_); rintro e w' ⟨rfl, rfl⟩)
          | (go_at_call 10; (with_reducible refine Calls.mono (add_no _ _ _ _ HN.out) ?_); rintro e w' ⟨rfl, rfl⟩)
          | (go_at_call 14; (with_reducible refine Calls.mono (advance_no _ _ _ HN.out) ?_); rintro e w' ⟨rfl, rfl⟩)
          | (go_at_call 13; (with_reducible refine Calls.mono (has_no _ _ _ HN.out) ?_); rintro e w' ⟨rfl, rfl⟩)
          | (go_at_call 16; (with_reducible refine Calls.mono (bytes_no _ _ HN.out) ?_); rintro e w' ⟨rfl, rfl⟩)
          | (go_at_call 12; (with_reducible refine Calls.mono (blocks_no _ _ HN.out) ?_); rintro e w' ⟨rfl, rfl⟩)
          | (go_at_call 15; (with_reducible refine Calls.mono (first_no _ _ HN.out) ?_); rintro e w' ⟨rfl, rfl⟩))
        go_roundw
        case rel => exact ⟨.inr (.inr (by go_num)), (by first | trivial | rfl)⟩
        case measure => simp [intOf]
      · go_wp2_with fail
        refine Calls.mono (alive24_any _) ?_
        rintro e w5 ⟨rfl, hb5⟩
        go_wp2_with fail
        go_ret
        exact ⟨rfl, below_after hB4.out hb5 (Nat.le_refl _)⟩
  · go_wp2_with fail
    refine Calls.mono (alive24_any _) ?_
    rintro e w4 ⟨rfl, hb4⟩
    go_wp2_with fail
    go_ret
    exact ⟨rfl, below_after hB3 hb4 (Nat.le_refl _)⟩
end Go.Proofs.Ytkflolbphiffbaa
