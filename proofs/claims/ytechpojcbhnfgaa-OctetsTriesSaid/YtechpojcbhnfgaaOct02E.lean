/- Walk of the law OctetsTries. -/
import Derived.Test.YtechpojcbhnfgaaOct02A
namespace Go.Proofs.Ytechpojcbhnfgaa
set_option linter.unusedVariables false
set_option linter.unusedSimpArgs false
open Go.RowKit

/-- A block of one cell. -/
theorem cell1 {w : World} {b : Nat} {v : Value} {T : TypeId} (h : w.heap[b]? = some (.cells #[v] T (0, 0))) : w.cell? ⟨b, 0, none⟩ = some v := by
  have := cell_of_row w b 0 _ _ _ h
  simpa using this
theorem froz1 {w : World} {b : Nat} {v : Value} {T : TypeId} (h : w.heap[b]? = some (.cells #[v] T (0, 0))) : w.frozen? ⟨b, 0, none⟩ = false := by simp [World.frozen?, h]
theorem set1 {w : World} {b : Nat} {v : Value} {T : TypeId} (h : w.heap[b]? = some (.cells #[v] T (0, 0))) (u : Value) : (w.setCell ⟨b, 0, none⟩ u).heap[b]? = some (.cells #[u] T (0, 0)) := by
  simp [World.setCell, Array.getElem?_modify, h]

set_option maxHeartbeats 400000 in
theorem tries11_own (p q : Nat) (w : World) (hp : w.heap[p]? = some (.cells #[.bool true] 4 (0, 0))) :
    Calls Try.prog 20 #[.pointer (some ⟨p, 0, none⟩), .pointer (some ⟨q, 0, none⟩)] w fun e w' => e = .panicked stopC ∧ Below w.heap.size w w' := by
  have c := cell1 hp
  go_enter Try.func20, Try.ntmps20
  go_wp2_with fail
  refine (read_any _ [] _ (RB.nil _) (by simp)).mono ?_
  rintro e w1 ⟨g, rfl, hg, hr1, hb1⟩
  go_wp2_with fail
  refine (num_stop _ 1 _ 0 (by decide) (left_any g _ _ hr1)).mono ?_
  rintro e w2 ⟨rfl, rfl⟩
  go_wp2_with fail
  exact ⟨rfl, rfl, hb1⟩
set_option maxHeartbeats 400000 in
theorem tries11_not (p q : Nat) (x : Value) (w : World) (hp : w.heap[p]? = some (.cells #[.bool false] 4 (0, 0))) (hq : w.heap[q]? = some (.cells #[x] 4 (0, 0))) :
    Calls Try.prog 20 #[.pointer (some ⟨p, 0, none⟩), .pointer (some ⟨q, 0, none⟩)] w fun e w' => e = .returned (.tuple #[]) ∧ w' = w.setCell ⟨q, 0, none⟩ (.bool true) := by
  have c := cell1 hp
  have d := cell1 hq
  have z := froz1 hq
  go_enter Try.func20, Try.ntmps20
  go_wp2_with fail
  go_end0
  exact ⟨rfl, rfl⟩

def errI (own : Bool) : Int := if own then 4 else 0
theorem errI_not (own : Bool) : (if (!own) = true then (0 : Int) else 4) = errI own := by cases own <;> rfl
set_option maxHeartbeats 400000 in
theorem tries1_any (own : Bool) (p q r : Nat) (hqr : q ≠ r) (x y : Value) (w : World) (hp : w.heap[p]? = some (.cells #[.bool own] 4 (0, 0))) (hq : w.heap[q]? = some (.cells #[.bool false] 4 (0, 0))) (hr : w.heap[r]? = some (.cells #[y] 33 (0, 0))) :
    Calls Try.prog 19 #[.pointer (some ⟨p, 0, none⟩), .pointer (some ⟨q, 0, none⟩), .pointer (some ⟨r, 0, none⟩)] w fun e w' => e = .returned (.tuple #[]) ∧
      w'.heap[q]? = some (.cells #[.bool (!own)] 4 (0, 0)) ∧ w'.heap[r]? = some (.cells #[.int .i64 (errI own)] 33 (0, 0)) ∧
      w'.os = w.os ∧ w'.tape = w.tape ∧ w'.output = w.output ∧ w.heap.size ≤ w'.heap.size ∧ ∀ k, k < w.heap.size → k ≠ q → k ≠ r → w'.heap[k]? = w.heap[k]? := by
  have hmf : ∀ (fn : Fn) (first cap : Array Value) (w : World), (Instr.makeFunc fn first cap).run Try.prog w = .ok (.func fn first cap) w := fun _ _ _ _ => rfl
  have lp := (Array.getElem?_eq_some_iff.1 hp).1
  have lq := (Array.getElem?_eq_some_iff.1 hq).1
  have lr := (Array.getElem?_eq_some_iff.1 hr).1
  go_enter Try.func19, Try.ntmps19
  go_wp2_with fail
  refine (try_any 20 _ w (fun b w' => b = !own ∧ w'.heap[q]? = some (.cells #[.bool (!own)] 4 (0, 0)) ∧ w.grownBy w' (some q)) (fun w => by kernel_rfl) ?_).mono ?_
  · have hA := below_alloc (Below.refl w.heap.size w) (.cells #[.int .i64 0] 33) (Nat.le_refl _)
    have k0 := (hA.block _ lp).trans hp
    have k1 := (hA.block _ lq).trans hq
    have k4 := heap_alloc_new w (.cells #[.int .i64 0] 33)
    have hsz : (w.alloc (.cells #[.int .i64 0] 33)).heap.size = w.heap.size + 1 := by simp
    generalize w.alloc (.cells #[.int .i64 0] 33) = WA at hA k0 k1 k4 hsz ⊢
    have hgA : w.grownBy WA (some q) := ⟨hA.os, hA.tape, hA.output, hA.size, fun k hk _ => hA.block k hk⟩
    cases own
    · refine (tries11_not p q _ WA k0 k1).mono ?_
      rintro e w' ⟨rfl, rfl⟩
      refine ⟨?_, .inl ⟨rfl, rfl, set1 k1 _, hgA.trans (grownBy_setCell _ _ _ _)⟩⟩
      rw [Below.heap_setCell _ _ _ _ (by show w.heap.size ≠ q; omega)]; exact k4
    · refine (tries11_own p q WA k0).mono ?_
      rintro e w' ⟨rfl, hb⟩
      exact ⟨(hb.block _ (by omega)).trans k4, .inr ⟨rfl, rfl, (hb.block _ (by omega)).trans k1, hgA.trans ⟨hb.os, hb.tape, hb.output, hb.size, fun k hk _ => hb.block k hk⟩⟩⟩
  · rintro e w3 ⟨b, w', ⟨rfl, h1, hg⟩, rfl, hg2, _⟩
    have s1 := hg.size
    have s2 := hg2.size
    have k3 := (hg2.block r (by omega) (by simp; omega)).trans ((hg.block r lr (by simp; omega)).trans hr)
    have kq := (hg2.block q (by omega) (by simp; omega)).trans h1
    have c := cell1 k3
    have z := froz1 k3
    rw [errI_not]
    go_wp2_with fail
    go_end0
    refine ⟨rfl, ?_, set1 k3 _, hg2.os.trans hg.os, hg2.tape.trans hg.tape, hg2.output.trans hg.output, by rw [size_setCell]; omega, fun k hk hkq hkr => ?_⟩
    · rw [Below.heap_setCell _ _ _ _ (by show q ≠ r; exact hqr)]; exact kq
    · rw [Below.heap_setCell _ _ _ _ (by show k ≠ r; exact hkr)]
      exact (hg2.block k (by omega) (by simp; omega)).trans (hg.block k hk (by simp; omega))

set_option maxHeartbeats 400000 in
theorem tries2_ok (p q : Nat) (rp : Option Addr) (size : Int) (hs : size ≤ 0) (w : World) (hp : w.heap[p]? = some (.cells #[.pointer rp] 31 (0, 0))) (hq : w.heap[q]? = some (.cells #[.int .i64 size] 3 (0, 0)))
    (hl : ∃ n : Nat, n ≤ 9223372036854775807 ∧ Calls Try.prog 18 #[.pointer rp] w fun e w' => e = .returned (.int .i64 (n : Int)) ∧ w = w') :
    Calls Try.prog 21 #[.pointer (some ⟨p, 0, none⟩), .pointer (some ⟨q, 0, none⟩)] w fun e w' => e = .returned (.tuple #[]) ∧ w = w' := by
  have c := cell1 hp
  have d := cell1 hq
  have HN := hid (num_zero rp size hs w hl)
  clear hl
  go_enter Try.func21, Try.ntmps21
  go_wp2_with fail
  refine HN.out.mono ?_
  rintro e w2 ⟨rfl, rfl⟩
  go_wp2_with fail
  go_end0
  exact ⟨rfl, rfl⟩
set_option maxHeartbeats 400000 in
theorem tries2_stop (p q : Nat) (rp : Option Addr) (size : Int) (hs : 0 < size) (w : World) (hp : w.heap[p]? = some (.cells #[.pointer rp] 31 (0, 0))) (hq : w.heap[q]? = some (.cells #[.int .i64 size] 3 (0, 0)))
    (hl : Calls Try.prog 18 #[.pointer rp] w fun e w' => e = .returned (.int .i64 ((0 : Nat) : Int)) ∧ w = w') :
    Calls Try.prog 21 #[.pointer (some ⟨p, 0, none⟩), .pointer (some ⟨q, 0, none⟩)] w fun e w' => e = .panicked stopC ∧ w = w' := by
  have c := cell1 hp
  have d := cell1 hq
  have HN := hid (num_stop rp size w 0 (by unfold numLen; split <;> omega) hl)
  clear hl
  go_enter Try.func21, Try.ntmps21
  go_wp2_with fail
  refine HN.out.mono ?_
  rintro e w2 ⟨rfl, rfl⟩
  go_wp2_with fail
  exact ⟨rfl, rfl, rfl⟩
theorem rdr_empty {w : World} {g : Nat} (h : w.heap[g]? = some (.cells #[.slice none 0 0] 39 (0, 0))) : Rdr w g [] := ⟨none, 0, h, Row.nil w 1⟩

set_option maxHeartbeats 4000000 in
theorem lawTries_any (size : Int) (own : Bool) (w : World) (s0 : -9223372036854775808 ≤ size) (s1 : size ≤ 9223372036854775807) :
    Calls Try.prog 5 #[.int .i64 size, .bool own] w fun e w' => e = .returned (.bool true) ∧ Below w.heap.size w w' := by
  have hmf : ∀ (fn : Fn) (first cap : Array Value) (w : World), (Instr.makeFunc fn first cap).run Try.prog w = .ok (.func fn first cap) w := fun _ _ _ _ => rfl
  obtain ⟨W1, hW1, f0, f1, fb1, fs1⟩ := two_blocks w (.cells #[.int .i64 size] 3) (.cells #[.bool own] 4)
  obtain ⟨W2, hW2, f2, f3, fb2, fs2⟩ := two_blocks W1 (.cells #[.bool false] 4) (.cells #[.int .i64 0] 33)
  have HW : Hid (W2 = (((w.alloc (.cells #[.int .i64 size] 3)).alloc (.cells #[.bool own] 4)).alloc (.cells #[.bool false] 4)).alloc (.cells #[.int .i64 0] 33)) := by unfold Hid; rw [hW2, hW1]
  have FB2 := below_after fb1 fb2 (Nat.le_refl _)
  have g0 := (fb2.block _ (by omega)).trans f0
  have g1 := (fb2.block _ (by omega)).trans f1
  rw [fs1] at f2 f3
  clear hW1 hW2 f0 f1
  go_enter Try.func5, Try.ntmps5
  go_wp2_with fail
  rw [← HW.out]
  clear HW
  refine (try_any 19 _ W2 (fun b w' => b = true ∧ w'.heap[w.heap.size + 2]? = some (.cells #[.bool (!own)] 4 (0, 0)) ∧ w'.heap[w.heap.size + 2 + 1]? = some (.cells #[.int .i64 (errI own)] 33 (0, 0)) ∧
      w'.os = W2.os ∧ w'.tape = W2.tape ∧ w'.output = W2.output ∧ W2.heap.size + 1 ≤ w'.heap.size ∧ ∀ k, k < W2.heap.size → k ≠ w.heap.size + 2 → k ≠ w.heap.size + 2 + 1 → w'.heap[k]? = W2.heap[k]?) (fun w => by kernel_rfl) ?_).mono ?_
  · have hA := below_alloc (Below.refl W2.heap.size W2) (.cells #[.int .i64 0] 33) (Nat.le_refl _)
    have k1 := (hA.block _ (by omega)).trans g1
    have k2 := (hA.block _ (by omega)).trans f2
    have k3 := (hA.block _ (by omega)).trans f3
    have k4 := heap_alloc_new W2 (.cells #[.int .i64 0] 33)
    have hsz : (W2.alloc (.cells #[.int .i64 0] 33)).heap.size = W2.heap.size + 1 := by simp
    generalize W2.alloc (.cells #[.int .i64 0] 33) = WA at hA k1 k2 k3 k4 hsz ⊢
    refine (tries1_any own (w.heap.size + 1) (w.heap.size + 2) (w.heap.size + 2 + 1) (by omega) (.bool false) _ WA k1 k2 k3).mono ?_
    rintro e w' ⟨rfl, h1, h2, h3, h4, h5, h6, h7⟩
    exact ⟨(h7 _ (by omega) (by omega) (by omega)).trans k4, .inl ⟨rfl, rfl, h1, h2, h3.trans hA.os, h4.trans hA.tape, h5.trans hA.output, by omega, fun k hk h8 h9 => (h7 k (by omega) h8 h9).trans (hA.block k hk)⟩⟩
  · rintro e w3 ⟨b, w', ⟨rfl, h1, h2, h3, h4, h5, h6, h7⟩, rfl, hg, _⟩
    have hgs := hg.size
    have q1 := (hg.block _ (by omega) (by simp; omega)).trans h1
    have q2 := (hg.block _ (by omega) (by simp; omega)).trans h2
    have q0 := (hg.block _ (by omega) (by simp; omega)).trans ((h7 _ (by omega) (by omega) (by omega)).trans g0)
    have qo := (hg.block _ (by omega) (by simp; omega)).trans ((h7 _ (by omega) (by omega) (by omega)).trans g1)
    have FB3 : Below w.heap.size w w3 := ⟨hg.os.trans (h3.trans FB2.os), hg.tape.trans (h4.trans FB2.tape), hg.output.trans (h5.trans FB2.output), by omega, fun k hk => (hg.block k (by omega) (by simp; omega)).trans ((h7 k (by omega) (by omega) (by omega)).trans (FB2.block k hk))⟩
    have e1 := cell1 q1
    have e2 := cell1 q2
    have e0 := cell1 q0
    have eo := cell1 qo
    have hw3 : w.heap.size + 4 ≤ w3.heap.size := by omega
    have hei : (errI own == 4) = own := by cases own <;> rfl
    have hne : (!own != own) = true := by cases own <;> rfl
    clear h1 h2 h3 h4 h5 h6 h7 hg f2 f3 q1 q2 g0 g1 hgs fb1 fb2 FB2
    cases own
    all_goals
      go_wp2_with fail
      obtain ⟨WS, hWS, r0, r1, rb, rs⟩ := two_blocks w3 (.cells #[.slice none 0 0] 39) (.cells #[.pointer none, .pointer (some ⟨w3.heap.size, 0, none⟩)] 31)
      rw [← hWS]
      clear hWS
      have rB := (rb.block _ (by omega)).trans q0
      have FB4 := below_after FB3 rb (by omega)
      obtain ⟨R, hRe⟩ : ∃ R, R = w3.heap.size := ⟨_, rfl⟩
      rw [← hRe] at r0 r1 ⊢
      have hRl : w.heap.size < R := by omega
      clear hRe rs rb FB3 e0 q0 e1 e2 eo qo hw3 fs1 fs2
      go_loopw [30] (fun i wr => ∃ k : Nat, k ≤ 2 ∧ i = .int .i64 k ∧ wr.heap[R]? = some (.cells #[.slice none 0 0] 39 (0, 0)) ∧ wr.heap[R + 1]? = some (.cells #[.pointer none, .pointer (some ⟨R, 0, none⟩)] 31 (0, 0)) ∧ wr.heap[w.heap.size]? = some (.cells #[.int .i64 size] 3 (0, 0)) ∧ Below w.heap.size w wr) (fun i _ => 2 - (intOf i).toNat)
      case atStart => exact ⟨0, by omega, rfl, r0, r1, rB, FB4⟩
      case round => 
        obtain ⟨k, hk, rfl, hR, hS, hB0, hb⟩ := hrel
        have hk3 : k = 0 ∨ k = 1 ∨ k = 2 := by omega
        rcases hk3 with rfl | rfl | rfl
        · -- reader 0
          have d0 := cell1 hB0
          have dS := cell_of_row wr (R + 1) 0 _ _ _ hS
          simp only [List.getElem?_toArray, List.getElem?_cons_zero, List.getElem?_cons_succ] at dS
          go_wp2_with fail
          obtain ⟨WR, hWR⟩ : ∃ WR, WR = wr.alloc (.cells #[.pointer none] 31) := ⟨_, rfl⟩
          rw [← hWR]
          have hbR : Below wr.heap.size wr WR := by rw [hWR]; exact below_alloc (Below.refl _ _) _ (Nat.le_refl _)
          have hbn : WR.heap[wr.heap.size]? = some (.cells #[.pointer none] 31 (0, 0)) := by rw [hWR]; exact heap_alloc_new _ _
          have hbs : WR.heap.size = wr.heap.size + 1 := by rw [hWR]; simp
          clear hWR
          have lS := (Array.getElem?_eq_some_iff.1 hS).1
          have lR := (Array.getElem?_eq_some_iff.1 hR).1
          have lB := (Array.getElem?_eq_some_iff.1 hB0).1
          refine (try_any 21 _ WR (fun b w' => b = decide (size ≤ 0) ∧ Below WR.heap.size WR w') (fun w => by kernel_rfl) ?_).mono ?_
          · have hA := below_alloc (Below.refl WR.heap.size WR) (.cells #[.int .i64 0] 33) (Nat.le_refl _)
            have k0 := (hA.block _ (by omega)).trans hbn
            have k1 := (hA.block _ (by omega)).trans ((hbR.block _ lB).trans hB0)
            have kR := (hA.block _ (by omega)).trans ((hbR.block _ lR).trans hR)
            have k4 := heap_alloc_new WR (.cells #[.int .i64 0] 33)
            have hsz : (WR.alloc (.cells #[.int .i64 0] 33)).heap.size = WR.heap.size + 1 := by simp
            generalize WR.alloc (.cells #[.int .i64 0] 33) = WA at hA k0 k1 kR k4 hsz ⊢
            have hleft := (left_nil WA)
            by_cases hs : size ≤ 0
            · refine (tries2_ok wr.heap.size w.heap.size _ size hs WA k0 k1 ⟨0, by omega, hleft⟩).mono ?_
              rintro e w' ⟨rfl, rfl⟩
              exact ⟨k4, .inl ⟨rfl, by simp [hs], hA⟩⟩
            · refine (tries2_stop wr.heap.size w.heap.size _ size (by omega) WA k0 k1 hleft).mono ?_
              rintro e w' ⟨rfl, rfl⟩
              exact ⟨k4, .inr ⟨rfl, by simp [hs], hA⟩⟩
          · rintro e w5 ⟨b, w6, ⟨rfl, hb6⟩, rfl, hg6, _⟩
            have hs6 := hb6.size
            have hbW : ∀ k, k < WR.heap.size → w5.heap[k]? = WR.heap[k]? := fun k hk => (hg6.block k (by omega) (by simp; omega)).trans (hb6.block k hk)
            have hsz5 := hg6.size
            have g9 := (hbW _ (by omega)).trans hbn
            have gR := (hbW _ (by omega)).trans ((hbR.block _ lR).trans hR)
            have gS := (hbW _ (by omega)).trans ((hbR.block _ lS).trans hS)
            have gB := (hbW _ (by omega)).trans ((hbR.block _ lB).trans hB0)
            have HB5 : Below w.heap.size w w5 := (below_after (below_after hb hbR (Nat.le_refl _)) hb6 (Nat.le_refl _)).grown hg6 (by have := hb.size; omega) (fun q hq => by injection hq with hq; have := hb.size; omega)
            have e9 := cell1 g9
            have eB := cell1 gB
            have hleft := (left_nil w5)
            have HL := hid hleft
            clear hleft
            by_cases hs : size ≤ 0
            · have hd1 : decide (size ≤ 0) = true := by simpa using hs
              have hd2 : (if decide (size ≤ 0) = true then (0 : Int) else 4) = 0 := by rw [hd1]; rfl
              rw [hd2]
              go_wp2_with (go_at_call 18; refine HL.out.mono ?_; rintro e w' ⟨rfl, rfl⟩)
              go_roundw
              case rel => exact ⟨0 + 1, by omega, rfl, gR, gS, gB, HB5⟩
              case measure => simp [intOf]
            · have hd1 : decide (size ≤ 0) = false := by simpa using hs
              have hd2 : (if decide (size ≤ 0) = true then (0 : Int) else 4) = 4 := by rw [hd1]; rfl
              rw [hd2]
              go_wp2_with (go_at_call 18; refine HL.out.mono ?_; rintro e w' ⟨rfl, rfl⟩)
              go_roundw
              case rel => exact ⟨0 + 1, by omega, rfl, gR, gS, gB, HB5⟩
              case measure => simp [intOf]
        · -- reader 1
          have d0 := cell1 hB0
          have dS := cell_of_row wr (R + 1) 1 _ _ _ hS
          simp only [List.getElem?_toArray, List.getElem?_cons_zero, List.getElem?_cons_succ] at dS
          go_wp2_with fail
          obtain ⟨WR, hWR⟩ : ∃ WR, WR = wr.alloc (.cells #[.pointer (some ⟨R, 0, none⟩)] 31) := ⟨_, rfl⟩
          rw [← hWR]
          have hbR : Below wr.heap.size wr WR := by rw [hWR]; exact below_alloc (Below.refl _ _) _ (Nat.le_refl _)
          have hbn : WR.heap[wr.heap.size]? = some (.cells #[.pointer (some ⟨R, 0, none⟩)] 31 (0, 0)) := by rw [hWR]; exact heap_alloc_new _ _
          have hbs : WR.heap.size = wr.heap.size + 1 := by rw [hWR]; simp
          clear hWR
          have lS := (Array.getElem?_eq_some_iff.1 hS).1
          have lR := (Array.getElem?_eq_some_iff.1 hR).1
          have lB := (Array.getElem?_eq_some_iff.1 hB0).1
          refine (try_any 21 _ WR (fun b w' => b = decide (size ≤ 0) ∧ Below WR.heap.size WR w') (fun w => by kernel_rfl) ?_).mono ?_
          · have hA := below_alloc (Below.refl WR.heap.size WR) (.cells #[.int .i64 0] 33) (Nat.le_refl _)
            have k0 := (hA.block _ (by omega)).trans hbn
            have k1 := (hA.block _ (by omega)).trans ((hbR.block _ lB).trans hB0)
            have kR := (hA.block _ (by omega)).trans ((hbR.block _ lR).trans hR)
            have k4 := heap_alloc_new WR (.cells #[.int .i64 0] 33)
            have hsz : (WR.alloc (.cells #[.int .i64 0] 33)).heap.size = WR.heap.size + 1 := by simp
            generalize WR.alloc (.cells #[.int .i64 0] 33) = WA at hA k0 k1 kR k4 hsz ⊢
            have hleft := (left_any R [] WA (rdr_empty kR))
            by_cases hs : size ≤ 0
            · refine (tries2_ok wr.heap.size w.heap.size _ size hs WA k0 k1 ⟨0, by omega, hleft⟩).mono ?_
              rintro e w' ⟨rfl, rfl⟩
              exact ⟨k4, .inl ⟨rfl, by simp [hs], hA⟩⟩
            · refine (tries2_stop wr.heap.size w.heap.size _ size (by omega) WA k0 k1 hleft).mono ?_
              rintro e w' ⟨rfl, rfl⟩
              exact ⟨k4, .inr ⟨rfl, by simp [hs], hA⟩⟩
          · rintro e w5 ⟨b, w6, ⟨rfl, hb6⟩, rfl, hg6, _⟩
            have hs6 := hb6.size
            have hbW : ∀ k, k < WR.heap.size → w5.heap[k]? = WR.heap[k]? := fun k hk => (hg6.block k (by omega) (by simp; omega)).trans (hb6.block k hk)
            have hsz5 := hg6.size
            have g9 := (hbW _ (by omega)).trans hbn
            have gR := (hbW _ (by omega)).trans ((hbR.block _ lR).trans hR)
            have gS := (hbW _ (by omega)).trans ((hbR.block _ lS).trans hS)
            have gB := (hbW _ (by omega)).trans ((hbR.block _ lB).trans hB0)
            have HB5 : Below w.heap.size w w5 := (below_after (below_after hb hbR (Nat.le_refl _)) hb6 (Nat.le_refl _)).grown hg6 (by have := hb.size; omega) (fun q hq => by injection hq with hq; have := hb.size; omega)
            have e9 := cell1 g9
            have eB := cell1 gB
            have hleft := (left_any R [] w5 (rdr_empty gR))
            have HL := hid hleft
            clear hleft
            by_cases hs : size ≤ 0
            · have hd1 : decide (size ≤ 0) = true := by simpa using hs
              have hd2 : (if decide (size ≤ 0) = true then (0 : Int) else 4) = 0 := by rw [hd1]; rfl
              rw [hd2]
              go_wp2_with (go_at_call 18; refine HL.out.mono ?_; rintro e w' ⟨rfl, rfl⟩)
              go_roundw
              case rel => exact ⟨1 + 1, by omega, rfl, gR, gS, gB, HB5⟩
              case measure => simp [intOf]
            · have hd1 : decide (size ≤ 0) = false := by simpa using hs
              have hd2 : (if decide (size ≤ 0) = true then (0 : Int) else 4) = 4 := by rw [hd1]; rfl
              rw [hd2]
              go_wp2_with (go_at_call 18; refine HL.out.mono ?_; rintro e w' ⟨rfl, rfl⟩)
              go_roundw
              case rel => exact ⟨1 + 1, by omega, rfl, gR, gS, gB, HB5⟩
              case measure => simp [intOf]
        · go_wp2_with (go_at_call 9; refine (alive_any _).mono ?_; rintro e w9 ⟨rfl, hal⟩)
          go_ret
          exact ⟨rfl, below_after hb hal (by have := hb.size; omega)⟩
end Go.Proofs.Ytechpojcbhnfgaa
