/- Walk: far of layer 26. -/
import Derived.Test.YtblkfpipmdfmkaaRbS
namespace Go.Proofs.Ytblkfpipmdfmkaa
set_option linter.unusedVariables false
set_option linter.unusedSimpArgs false
open Go.RowKit

def farN (ss : List StpB) : Nat := (ss.map fun s => min s.p.length 10000).sum
theorem farN_take (ss : List StpB) (k : Nat) (h : k < ss.length) : farN (ss.take (k + 1)) = farN (ss.take k) + min (ss.getD k default).p.length 10000 := by
  unfold farN
  rw [List.take_succ_eq_append_getElem h, List.map_append, List.sum_append]
  simp [List.getD_eq_getElem?_getD, List.getElem?_eq_getElem h]
theorem farN_le (ss : List StpB) (k : Nat) : farN (ss.take k) ≤ k * 10000 := by
  induction k with
  | zero => simp [farN]
  | succ k ih =>
    by_cases h : k < ss.length
    · have h2 : min (ss.getD k default).p.length 10000 ≤ 10000 := Nat.min_le_right _ _
      rw [farN_take ss k h, Nat.succ_mul]
      exact Nat.add_le_add ih h2
    · have e1 : ss.take (k + 1) = ss.take k := by rw [List.take_of_length_le (by omega), List.take_of_length_le (by omega)]
      rw [e1, Nat.succ_mul]
      exact Nat.le_trans ih (Nat.le_add_right _ _)
theorem farN_mem : ∀ (ss : List StpB) (s : StpB), s ∈ ss → min s.p.length 10000 ≤ farN ss
  | x :: xs, s, h => by
    have e : farN (x :: xs) = min x.p.length 10000 + farN xs := by simp [farN]
    rcases List.mem_cons.1 h with rfl | h
    · omega
    · have := farN_mem xs s h
      omega
set_option maxHeartbeats 1000000 in
theorem farB_any (A : Option Addr) (c : Nat) (ss : List StpB) (w : World) (h : BRow w A c ss) :
    Calls Try.prog 8 #[.slice A ss.length c] w fun e w' => e = .returned (.bool (decide (3000 < farN (ss.take 60)))) ∧ Below w.heap.size w w' := by
  have HS := hid (shortB_any A ss.length c w h.row.cap h.row.top)
  have h2 := h.take 60
  have hl : min ss.length 60 = (ss.take 60).length := by rw [List.length_take]; omega
  have hl2 : (ss.take 60).length ≤ 60 := by rw [List.length_take]; omega
  rw [hl] at HS
  clear h hl
  generalize ss.take 60 = ts at h2 hl2 HS ⊢
  have HL := hid hl2
  have HR := hid h2
  clear h2 hl2
  go_enter Try.func8, Try.ntmps8
  go_wp2_with fail
  (with_reducible refine Calls.mono HS.out ?_)
  rintro e w' ⟨rfl, rfl⟩
  clear HS
  have hl2 := HL.out
  go_wp2_with fail
  go_loopw [3, 9] (fun n i wr => ∃ k : Nat, k ≤ ts.length ∧ i = .int .i64 k ∧ n = .int .i64 (farN (ts.take k)) ∧ Below w.heap.size w wr) (fun _ i _ => ts.length - (intOf i).toNat)
  case atStart => exact ⟨0, Nat.zero_le _, rfl, rfl, Below.refl _ _⟩
  case round =>
    obtain ⟨k, hk, rfl, rfl, hb⟩ := hrel
    by_cases hlt : k < ts.length
    · have hrow := HR.out.row.below hb
      obtain ⟨a, rfl⟩ := hrow.addr (by rw [sbs_length]; omega)
      obtain ⟨l0, l1, l2, l3⟩ := hrow.stB k hlt _ rfl
      have HF := hid (farN_take ts k hlt)
      have hfl := farN_le ts k
      generalize ts.getD k default = s at l0 l1 l2 l3 HF
      have HB := hid hb
      clear hrow hb
      obtain ⟨q, hq⟩ : ∃ q, min s.p.length 10000 = q := ⟨_, rfl⟩
      rw [hq] at HF
      have a1 : min (s.p.length : Int) 10000 = (q : Int) := by omega
      have a2 : (if (10000 : Int) < (s.p.length : Int) then 10000 else (s.p.length : Int)) = (q : Int) := by split <;> omega
      have a3 : (if (s.p.length : Int) < 10000 then (s.p.length : Int) else 10000) = (q : Int) := by split <;> omega
      have a4 : (if s.p.length < 10000 then (s.p.length : Int) else 10000) = (q : Int) := by split <;> omega
      have hq1 : q ≤ 10000 := by omega
      generalize hfn : farN (ts.take k) = fn at hfl HF ⊢
      have hfl2 : fn ≤ 600000 := by omega
      clear hq hfn hfl
      go_wp2_with fail
      go_roundw
      case rel => exact ⟨k + 1, by omega, by go_num, by rw [HF.out]; go_num, HB.out.alloc (by have := HB.out.size; omega) _⟩
      case measure => simp [intOf]; omega
    · obtain rfl : k = ts.length := by omega
      have hfl := farN_le ts ts.length
      rw [List.take_length] at hfl ⊢
      generalize hfn : farN ts = fn at hfl ⊢
      have HFN := hid hfn
      clear hfn
      have t1 : decide ((3000 : Int) < (fn : Int)) = decide (3000 < fn) := by rw [decide_eq_decide]; omega
      go_wp2_with fail
      go_ret
      rw [HFN.out]
      exact ⟨rfl, hb⟩
end Go.Proofs.Ytblkfpipmdfmkaa
