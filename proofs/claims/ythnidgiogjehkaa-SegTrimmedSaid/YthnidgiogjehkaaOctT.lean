/- Walks: octets.Try and what it defers. -/
import Derived.Test.YthnidgiogjehkaaOctB
import Derived.Recover
import Derived.Defers
import Derived.Laws.Pointers
namespace Go.Proofs.Ythnidgiogjehkaa
set_option linter.unusedVariables false
set_option linter.unusedSimpArgs false
set_option maxRecDepth 20000
open Go.RowKit

set_option maxHeartbeats 400000 in
theorem tryD_idle (p : Addr) (w : World) :
    CallsD Try.prog 75 #[.pointer (some p)] .returning w fun e u' w' => e = .returned (.tuple #[]) ∧ u' = .returning ∧ w' = w := by
  refine callsD_of_wpS Try.func75 rfl fun c₀ cs hu => ?_
  apply wpS_seq
  apply wpS_region
  simp [wpOpsS, go_sem, recoverD, hu, Try.ntmps75, Exit.thenS]
  apply wpS_seq
  refine wpS_of_wp ?_
  simp only [Array.replicate_succ, Array.replicate_zero, List.push_toArray, List.append_toArray, List.nil_append, List.cons_append, List.setIfInBounds_toArray, List.set_cons_succ, List.set_cons_zero]
  go_wp2
  cases c₀
  simp_all [Exit.thenS, bodyPostS, results, Try.results75]

theorem assert_stop (w : World) : (Instr.typeAssert (.iface 112 (.agg #[])) 20 112 true).run Try.prog w = .ok (.tuple #[.agg #[], .bool true]) w := by kernel_rfl

set_option maxHeartbeats 400000 in
theorem tryD_stop (p : Addr) (x : Value) (w : World) (hc : w.cell? p = some x) (hz : w.frozen? p = false) (hp : p.block < w.heap.size) :
    CallsD Try.prog 75 #[.pointer (some p)] (.panicking stopC) w fun e u' w' => e = .returned (.tuple #[]) ∧ u' = .panicking [{ v := stopV, recovered := true }] ∧ w' = (w.alloc (.cells #[] 112)).setCell p (.int .i64 4) := by
  refine callsD_of_wpS Try.func75 rfl fun c₀ cs hu => ?_
  unfold stopC stopV at *
  apply wpS_seq
  apply wpS_region
  simp [wpOpsS, go_sem, recoverD, hu, Try.ntmps75, Exit.thenS]
  have hne : p.block ≠ w.heap.size := by omega
  have hc2 : (w.alloc (.cells #[] 112)).cell? p = some x := by rw [World.cell?_alloc_lt w _ p hp]; exact hc
  have hz2 : (w.alloc (.cells #[] 112)).frozen? p = false := by rw [← hz]; exact World.frozen?_of_block (Below.heap_alloc w _ _ hp)
  have hta := assert_stop
  apply wpS_seq
  refine wpS_of_wp ?_
  simp only [Array.replicate_succ, Array.replicate_zero, List.push_toArray, List.append_toArray, List.nil_append, List.cons_append, List.setIfInBounds_toArray, List.set_cons_succ, List.set_cons_zero]
  go_wp2
  simp only [Exit.thenS]
  refine wpS_of_wp ?_
  go_wp2
  simp [bodyPostS, results, Try.results75]

/-- How Try ends: the read's own end told by b. -/
def TryEnd (Q : Bool → World → Prop) (B : Nat) (e : Ending) (w'' : World) : Prop := ∃ b w', Q b w' ∧ e = .returned (.int .i64 (if b then 0 else 4)) ∧ w'.grownBy w'' (some B) ∧ w'.heap[B]? = some (.cells #[.int .i64 0] 37 (0, 0))

set_option maxHeartbeats 400000 in
theorem try_any (f : FuncId) (cap : Array Value) (w : World) (Q : Bool → World → Prop)
    (hen : ∀ w, (callFunc f cap).run Try.prog w = .ok (.enter f cap) w)
    (hcall : Calls Try.prog f cap (w.alloc (.cells #[.int .i64 0] 37)) fun e w' => w'.heap[w.heap.size]? = some (.cells #[.int .i64 0] 37 (0, 0)) ∧ ((e = .returned (.tuple #[]) ∧ Q true w') ∨ (e = .panicked stopC ∧ Q false w'))) :
    Calls Try.prog 63 #[.func (.func f) #[] cap] w (TryEnd Q w.heap.size) := by
  have hmf : ∀ (fn : Fn) (first cap : Array Value) (w : World), (Instr.makeFunc fn first cap).run Try.prog w = .ok (.func fn first cap) w := fun _ _ _ _ => rfl
  have HC := hid hcall
  clear hcall
  go_enter_defers Try.func63, Try.ntmps63
  go_wp2_with fail
  refine HC.out.mono ?_
  rintro e w1 ⟨hB, ⟨rfl, hq⟩ | ⟨rfl, hq⟩⟩
  · have hc := cell_of_row w1 _ 0 _ _ _ hB
    have hz : w1.frozen? ⟨w.heap.size, 0, none⟩ = false := by simp [World.frozen?, hB]
    simp only [List.getElem?_toArray, List.getElem?_cons_zero] at hc
    clear hen
    go_wp2_with fail
    refine leaves_cons (f := 75) (args := #[.pointer (some ⟨w.heap.size, 0, none⟩)]) (by simp) (by simp [go_sem]) ?_
    refine (tryD_idle ⟨w.heap.size, 0, none⟩ _).mono ?_
    rintro e u' w'' ⟨rfl, rfl, rfl⟩
    have hb2 : (w1.setCell ⟨w.heap.size, 0, none⟩ (.int .i64 0)).heap[w.heap.size]? = some (.cells #[.int .i64 0] 37 (0, 0)) := by simp [World.setCell, Array.getElem?_modify, hB]
    have hc2 := cell_of_row _ _ 0 _ _ _ hb2
    simp only [List.getElem?_toArray, List.getElem?_cons_zero] at hc2
    simp [Leaves, settle, results, Try.results63, go_sem, hc2]
    exact ⟨true, w1, hq, rfl, grownBy_setCell _ _ _ _, hB⟩
  · have hc := cell_of_row w1 _ 0 _ _ _ hB
    have hz : w1.frozen? ⟨w.heap.size, 0, none⟩ = false := by simp [World.frozen?, hB]
    have hlt : w.heap.size < w1.heap.size := (Array.getElem?_eq_some_iff.1 hB).1
    simp only [List.getElem?_toArray, List.getElem?_cons_zero] at hc
    go_wp2_with fail
    refine leaves_cons (f := 75) (args := #[.pointer (some ⟨w.heap.size, 0, none⟩)]) (by simp) (by simp [go_sem]) ?_
    refine (tryD_stop ⟨w.heap.size, 0, none⟩ _ _ hc hz hlt).mono ?_
    rintro e u' w'' ⟨rfl, rfl, rfl⟩
    have hb2 : ((w1.alloc (.cells #[] 112)).setCell ⟨w.heap.size, 0, none⟩ (.int .i64 4)).heap[w.heap.size]? = some (.cells #[.int .i64 4] 37 (0, 0)) := by
      have h1 := (Below.heap_alloc w1 (.cells #[] 112) _ hlt).trans hB
      simp [World.setCell, Array.getElem?_modify, h1]
    have hc2 := cell_of_row _ _ 0 _ _ _ hb2
    simp only [List.getElem?_toArray, List.getElem?_cons_zero] at hc2
    simp [Leaves, settle, results, Try.results63, go_sem, hc2]
    exact ⟨false, w1, hq, rfl, (World.grownBy_alloc w1 _ _).trans (grownBy_setCell _ _ _ _), hB⟩

/-- Rows and readers stay where only a block of one other value has been written. -/
theorem Row.grownNe {w w' : World} {B sz n c : Nat} {A : Option Addr} {vs : List Value} {u : Value} {T : TypeId} (h : Row w sz A n c vs) (hg : w.grownBy w' (some B)) (hB : w.heap[B]? = some (.cells #[u] T (0, 0))) (hu : ∀ v ∈ vs, v ≠ u) : Row w' sz A n c vs := by
  refine h.keep' fun k v hv ad hc => hg.cell hc (fun e => ?_)
  injection e with e
  unfold World.cell? at hc
  rw [e, hB] at hc
  simp only at hc
  split at hc
  · cases hc
  · rw [List.getElem?_toArray] at hc
    rcases ho : (ad.add k).off with _ | q
    · rw [ho] at hc; simp at hc; exact hu v (List.mem_of_getElem? hv) hc.symm
    · rw [ho] at hc; simp at hc
theorem by8_ne_i64 (xs : List UInt8) (n : Int) : ∀ v ∈ by8 xs, v ≠ .int .i64 n := by
  intro v hv e
  obtain ⟨x, _, rfl⟩ := List.mem_map.1 hv
  injection e with e; cases e
theorem RB.grownNe {w w' : World} {B : Nat} {v : Value} {xs : List UInt8} {n : Int} {T : TypeId} (h : RB w v xs) (hg : w.grownBy w' (some B)) (hB : w.heap[B]? = some (.cells #[.int .i64 n] T (0, 0))) : RB w' v xs := by
  obtain ⟨A, c, e, r⟩ := h
  exact ⟨A, c, e, r.grownNe hg hB (by8_ne_i64 _ _)⟩
theorem Rdr.grownNe {w w' : World} {B g : Nat} {xs : List UInt8} {n : Int} {T : TypeId} (h : Rdr w g xs) (hg : w.grownBy w' (some B)) (hB : w.heap[B]? = some (.cells #[.int .i64 n] T (0, 0))) : Rdr w' g xs := by
  have hl := h.lt
  obtain ⟨A, c, h, r⟩ := h
  refine ⟨A, c, (hg.block g hl (fun e => ?_)).trans h, r.grownNe hg hB (by8_ne_i64 _ _)⟩
  injection e with e
  subst e
  rw [hB] at h
  injection h with h
  injection h with h
  cases h
end Go.Proofs.Ythnidgiogjehkaa
